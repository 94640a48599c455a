import Derived.Laws.IdiomStrings
import Derived.Test.YtcaaebjjgbcjpaaGreatDoorDA
/-! A plain machine over lists, and that it answers what the program answers. -/
namespace GoD
open Go
set_option linter.unusedVariables false
set_option linter.unusedSimpArgs false
section
variable {E : Env} {w : World} {r : List (Option Loc)} {h : Heap}
theorem ldN_some {c : List V} {o n : Nat} {l : List V} (h : ldN c o n = some l) : o + n ≤ c.length ∧ l = (c.drop o).take n ∧ l.length = n ∧ ∀ (j : Nat) v, l[j]? = some v → c[o + j]? = some v := by
  unfold ldN at h
  split at h
  · rename_i hl
    obtain rfl := Option.some.inj h
    refine ⟨hl, rfl, by simp; omega, fun j v hj => ?_⟩
    rw [List.getElem?_take] at hj
    split at hj
    · rwa [List.getElem?_drop] at hj
    · cases hj
  · cases h
theorem cellsAt_ok (hr : HR E.G r h w.heap) {a : V} {A : Value} (ha : R r a A) {n : Nat} {l : List V} (hl : cellsAt E h a n = some l) :
    ∃ B o c e fz, A = .pointer (some ⟨B, o, none⟩) ∧ w.heap[B]? = some (.cells c e fz) ∧ l.length = n ∧ ∀ (j : Nat) v, l[j]? = some v → ∃ y, c[o + j]? = some y ∧ R r v y := by
  unfold cellsAt at hl
  split at hl
  · rename_i b o
    cases ha with
    | p _ _ L hL =>
      split at hl
      · cases hl
      · rename_i st x c hb
        have hb' := hget_some hb (by simp)
        obtain ⟨h1, rfl, h2, h3⟩ := ldN_some hl
        rcases hr.blk b _ _ hb' hL with h0 | ⟨c', e, fz, h4, h5, _⟩
        · simp at h0
        · refine ⟨_, _, c', e, fz, rfl, h4, h2, fun j v hj => ?_⟩
          have := h5 _ v (h3 j v hj)
          rwa [← Nat.add_assoc] at this
  · rename_i m o
    cases ha with
    | g =>
      split at hl
      · cases hl
      · rename_i x0 c0 hG
        obtain ⟨h1, rfl, h2, h3⟩ := ldN_some hl
        obtain ⟨c, e, fz, h4, h5⟩ := hr.glob m (by rw [hG]; simp)
        refine ⟨_, _, c, e, fz, rfl, h4, h2, fun j v hj => ?_⟩
        obtain ⟨x, hx, hR⟩ := h5 _ v (by rw [hG]; exact h3 j v hj)
        exact ⟨x, hx, hR.mono (List.nil_prefix)⟩
  · cases hl
theorem loadV_ok (hr : HR E.G r h w.heap) {t : TypeId} {a v : V} {A : Value} (ha : R r a A) (hv : loadV E h t a = some v) : ∃ y, (Instr.loadAt t A).run E.P w = .ok y w ∧ R r v y := by
  unfold loadV at hv
  split at hv
  · rename_i hg
    obtain ⟨h1, d, hd⟩ := run_aggT E.P w hg
    obtain ⟨l, hl, rfl⟩ := Option.map_eq_some_iff.1 hv
    obtain ⟨B, o, c, e, fz, rfl, hc, hn, hh⟩ := cellsAt_ok hr ha hl
    obtain ⟨xs, hx, hR⟩ := run_ld (P := E.P) hc hn hh
    exact ⟨_, by simp [Instr.loadAt, Instr.sureAddr, loadVar, h1, run_sizeOf E.P w hd, hx], .agg _ _ hR⟩
  · rename_i hg
    obtain ⟨h1, d, hd⟩ := run_aggT E.P w hg
    split at hv
    · rename_i v' hl
      obtain rfl := Option.some.inj hv
      obtain ⟨B, o, c, e, fz, rfl, hc, hn, hh⟩ := cellsAt_ok hr ha hl
      obtain ⟨y, hy, hR⟩ := hh 0 _ rfl
      refine ⟨y, ?_, hR⟩
      have : w.cell? ⟨B, o, none⟩ = some y := by rw [cell_of hc]; simpa using hy
      simp [Instr.loadAt, Instr.sureAddr, loadVar, h1, this]
    · cases hv
  · cases hv
theorem partV_ok {t : TypeId} {c : List V} {Xs : List Value} (hx : RL r c Xs) {o : Nat} {v : V} (hv : partV E.P t c o = some v) : ∃ y, (part t Xs.toArray o).run E.P w = .ok y w ∧ R r v y := by
  unfold partV at hv
  split at hv
  · rename_i hg
    obtain ⟨h1, d, hd⟩ := run_aggT E.P w hg
    split at hv
    · rename_i hl
      obtain rfl := Option.some.inj hv
      exact ⟨.agg ((Xs.drop o).take (E.P.cellsOf t)).toArray, by simp [part, h1, run_sizeOf E.P w hd], .agg _ _ ((hx.drop o).take (E.P.cellsOf t))⟩
    · cases hv
  · rename_i hg
    obtain ⟨h1, d, hd⟩ := run_aggT E.P w hg
    split at hv
    · rename_i hl
      obtain rfl := Option.some.inj hv
      obtain ⟨x, h2, h3⟩ := forall_get hx hl
      exact ⟨x, by simp [part, h1, h2], h3⟩
    · cases hv
  · cases hv
theorem fieldsT_ok {t : TypeId} {l : List (Nat × Nat × TypeId)} (h : fieldsT E.P t = some l) : ∃ fs, E.P.underlying t = some (.struct fs) ∧ (∀ f, f ∈ fs.toList → 0 < E.P.cellsOf f.type) ∧ l = fs.toList.map fun f => (f.offset, E.P.cellsOf f.type, f.type) := by
  unfold fieldsT at h
  split at h
  · rename_i fs hu
    split at h
    · rename_i ha
      obtain rfl := Option.some.inj h
      exact ⟨fs, hu, fun f hf => by simpa using List.all_eq_true.1 ha f hf, rfl⟩
    · cases h
  · cases h
theorem field_at {fs : Array Field} {l : List (Nat × Nat × TypeId)} (hl : l = fs.toList.map fun f => (f.offset, E.P.cellsOf f.type, f.type)) {i : Nat} {f : Nat × Nat × TypeId} (h : l[i]? = some f) : ∃ fd, fs[i]? = some fd ∧ fd ∈ fs.toList ∧ f = (fd.offset, E.P.cellsOf fd.type, fd.type) := by
  subst hl
  rw [List.getElem?_map] at h
  obtain ⟨fd, h1, rfl⟩ := Option.map_eq_some_iff.1 h
  exact ⟨fd, by simpa using h1, List.mem_of_getElem? h1, rfl⟩
theorem fieldV_ok {t : TypeId} {x v : V} {X : Value} (hx : R r x X) {f : Nat} (hv : fieldV E.P t x f = some v) : ∃ y, (Instr.field t X f).run E.P w = .ok y w ∧ R r v y := by
  unfold fieldV at hv
  split at hv
  · rename_i c
    cases hx with
    | agg _ Xs hxs =>
      split at hv
      · rename_i l hl
        obtain ⟨fs, hu, hp, hll⟩ := fieldsT_ok hl
        split at hv
        · rename_i fd hf
          obtain ⟨g, h1, h2, rfl⟩ := field_at hll hf
          obtain ⟨y, hy, hR⟩ := partV_ok (w := w) hxs hv
          exact ⟨y, by simp [Instr.field, run_und E.P w hu, h1, asAgg, hy], hR⟩
        · cases hv
      · cases hv
  · cases hv
theorem off_ok {x v : V} {X : Value} (hx : R r x X) {n : Nat} (hv : off x n = some v) : ∃ B o, X = .pointer (some ⟨B, o, none⟩) ∧ R r v (.pointer (some ((⟨B, o, none⟩ : Addr).add n))) := by
  unfold off at hv
  split at hv
  · obtain rfl := Option.some.inj hv
    cases hx with
    | p b o L hL => exact ⟨_, _, rfl, by rw [add_none, Nat.add_assoc]; exact .p _ _ L hL⟩
  · obtain rfl := Option.some.inj hv
    cases hx with
    | g m o => exact ⟨_, _, rfl, by rw [add_none]; exact .g _ _⟩
  · cases hv
theorem fieldAddrV_ok {t : TypeId} {x v : V} {X : Value} (hx : R r x X) {f : Nat} (hv : fieldAddrV E.P t x f = some v) : ∃ y, (Instr.fieldAt t X f).run E.P w = .ok y w ∧ R r v y := by
  unfold fieldAddrV at hv
  split at hv
  · rename_i l hl
    obtain ⟨fs, hu, hp, hll⟩ := fieldsT_ok hl
    split at hv
    · rename_i fd hf
      obtain ⟨g, h1, h2, rfl⟩ := field_at hll hf
      have h0 : E.P.cellsOf g.type ≠ 0 := by have := hp g h2; omega
      obtain ⟨B, o, rfl, hR⟩ := off_ok hx hv
      have hs : (Go.sizeOf g.type).run E.P w = .ok (E.P.cellsOf g.type) w := by
        cases hi : E.P.info? g.type with
        | none => simp [Program.cellsOf, hi] at h0
        | some i => simp [Go.sizeOf, typeInfo, hi, Program.cellsOf]
      exact ⟨_, by simp [Instr.fieldAt, run_und E.P w hu, h1, Instr.sureAddr, fieldPlace, hs, h0], hR⟩
    · cases hv
  · cases hv
theorem run_size0 {t : TypeId} (h0 : E.P.cellsOf t ≠ 0) : (Go.sizeOf t).run E.P w = .ok (E.P.cellsOf t) w := by
  cases hi : E.P.info? t with
  | none => simp [Program.cellsOf, hi] at h0
  | some i => simp [Go.sizeOf, typeInfo, hi, Program.cellsOf]
theorem indexAddrV_ok {t : TypeId} {x i v : V} {X I : Value} (hx : R r x X) (hi : R r i I) (hv : indexAddrV E.P t x i = some v) : ∃ y, (Instr.indexAt t X I).run E.P w = .ok y w ∧ R r v y := by
  unfold indexAddrV at hv
  split at hv
  · rename_i e b o n z k q hu
    cases hi with
    | i _ _ hk =>
      split at hv
      · rename_i hq
        obtain ⟨q0, hq2, rfl, hz⟩ := hq
        have hs := run_size0 (E := E) (w := w) (t := e) (by omega)
        obtain rfl := Option.some.inj hv
        cases hx with
        | sl _ _ _ _ c L hL hc hn hb =>
          refine ⟨.pointer (some ⟨L.block, L.off + (o + q.toNat * E.P.cellsOf e), none⟩), ?_, .p _ _ L hL⟩
          simp [Instr.indexAt, asIntOf, run_und E.P w hu, hs, q0, hq2, add_none, Nat.add_assoc]
        | s0 => simp at hq2; omega
        | sn => simp at hq2; omega
      · cases hv
  · rename_i n e k q hu
    cases hi with
    | i _ _ hk =>
      split at hv
      · rename_i hq
        have hs := run_size0 (E := E) (w := w) (t := e) (by omega)
        obtain ⟨B, o, rfl, hR⟩ := off_ok hx hv
        exact ⟨_, by simp [Instr.indexAt, asIntOf, run_und E.P w hu, hs, hq.1, hq.2.1, Instr.sureAddr], hR⟩
      · cases hv
  · cases hv
theorem toBA_get {l : List Int} {q : Int} (h0 : 0 ≤ q) (h1 : q < (l.length : Int)) : (toBA l)[q.toNat]? = some (UInt8.ofNat (l.getD q.toNat 0).toNat) := by
  have hlt : q.toNat < (toBA l).size := by rw [toBA_size]; omega
  have hl2 : q.toNat < l.length := by omega
  rw [ByteArray.getElem?_lt' _ _ hlt]
  congr 1
  show (toBA l).data[q.toNat] = _
  simp [toBA, hl2]
theorem indexV_ok {t : TypeId} {x i v : V} {X I : Value} (hx : R r x X) (hi : R r i I) (hv : indexV E.P t x i = some v) : ∃ y, (Instr.index t X I).run E.P w = .ok y w ∧ R r v y := by
  unfold indexV at hv
  split at hv
  · rename_i l k q hu
    cases hi with
    | i _ _ hk => cases hx with
      | s _ hl =>
        split at hv
        · rename_i hq
          obtain rfl := Option.some.inj hv
          have hb : 0 ≤ l.getD q.toNat 0 ∧ l.getD q.toNat 0 < 256 := by
            have hlt : q.toNat < l.length := by omega
            rw [List.getD_eq_getElem?_getD, List.getElem?_eq_getElem hlt]
            exact hl.1 _ (List.getElem_mem hlt)
          refine ⟨.int .u8 (l.getD q.toNat 0), ?_, .i _ _ (by rw [wrap_iff]; simp [lo, hi, IntKind.signed, IntKind.bits]; simpa using hb)⟩
          simp [Instr.index, asIntOf, run_und E.P w hu, hq.1, toBA_get hq.1 hq.2]
          simpa using byte_of hb
        · cases hv
  · rename_i n e c k q hu
    cases hi with
    | i _ _ hk => cases hx with
      | agg _ Xs hxs =>
        split at hv
        · rename_i hq
          have hs := run_size0 (E := E) (w := w) (t := e) (by omega)
          obtain ⟨y, hy, hR⟩ := partV_ok (w := w) hxs hv
          exact ⟨y, by simp [Instr.index, asIntOf, run_und E.P w hu, hs, hq.1, hq.2.1, hy], hR⟩
        · cases hv
  · cases hv
theorem lenV_ok {t ty : TypeId} {x v : V} {X : Value} (hx : R r x X) (hv : lenV E.P t x = some v) : ∃ y, (Builtin.len_ #[t] ty #[X]).run E.P w = .ok y w ∧ R r v y := by
  have hw : ∀ n : Nat, n ≤ 281474976710656 → IntKind.i64.wrap (n : Int) = n := fun n hn => by
    rw [wrap_iff]; simp [lo, hi, IntKind.signed, IntKind.bits]; omega
  unfold lenV at hv
  split at hv
  · rename_i l hu
    cases hx with
    | s _ hl =>
      obtain rfl := Option.some.inj hv
      exact ⟨.int .i64 l.length, by simp [Builtin.len_, run_und E.P w hu, goInt, toBA_size], .i _ _ (hw _ hl.2)⟩
  · rename_i e b o n z hu
    obtain rfl := Option.some.inj hv
    cases hx with
    | sl _ _ _ _ c L hL hc hn hb => exact ⟨_, by simp [Builtin.len_, run_und E.P w hu, goInt], .i _ _ (hw _ hb)⟩
    | s0 => exact ⟨_, by simp [Builtin.len_, run_und E.P w hu, goInt], .i _ _ (hw 0 (by omega))⟩
    | sn => exact ⟨_, by simp [Builtin.len_, run_und E.P w hu, goInt], .i _ _ (hw 0 (by omega))⟩
  · rename_i e hu
    obtain rfl := Option.some.inj hv
    cases hx with
    | c => exact ⟨_, by simp [Builtin.len_, run_und E.P w hu, goInt], .i _ _ (hw 0 (by omega))⟩
  · rename_i e hu
    obtain rfl := Option.some.inj hv
    cases hx with
    | e0 => exact ⟨_, by simp [Builtin.len_, run_und E.P w hu, goInt], .i _ _ (hw 0 (by omega))⟩
  · rename_i k e hu
    obtain rfl := Option.some.inj hv
    cases hx with
    | c => exact ⟨_, by simp [Builtin.len_, run_und E.P w hu, goInt], .i _ _ (hw 0 (by omega))⟩
  · rename_i n e hu
    split at hv
    · rename_i hn
      obtain rfl := Option.some.inj hv
      exact ⟨_, by simp [Builtin.len_, run_und E.P w hu, goInt], .i _ _ (hw _ hn)⟩
    · cases hv
  · cases hv
theorem extr {l : List Int} (a b : Nat) : (toBA l).extract a b = toBA ((l.drop a).take (b - a)) := by
  unfold toBA
  have := ByteArray.extract_mk (l.map fun x => UInt8.ofNat x.toNat) a b
  rw [show (ByteArray.mk (Array.mk (l.map fun x => UInt8.ofNat x.toNat))) = ByteArray.mk (l.map fun x => UInt8.ofNat x.toNat).toArray from rfl, this]
  simp [List.map_take, List.map_drop]
theorem str_cut {l : List Int} (h : Str l) (a b : Nat) : Str ((l.drop a).take b) :=
  ⟨fun x hx => h.1 x (List.mem_of_mem_drop (List.mem_of_mem_take hx)), by have := h.2; simp; omega⟩
theorem cutV_ok {t : TypeId} {x v : V} {X : Value} (hx : R r x X) {lo hi : Option V} {Lo Hi : Option Value} (hl : ∀ a, lo = some a → ∃ A, Lo = some A ∧ R r a A) (hl0 : lo = none → Lo = none) (hh : ∀ a, hi = some a → ∃ A, Hi = some A ∧ R r a A) (hh0 : hi = none → Hi = none)
    (hv : cutV E.P t x lo hi = some v) : ∃ y, (Instr.sliceAt t X Lo Hi none).run E.P w = .ok y w ∧ R r v y := by
  have ii : ∀ {k : IntKind} {n : Int} {A : Value}, R r (.i k n) A → A = .int k n := fun h => by cases h; rfl
  have bound : ∀ {k : IntKind} {n : Int} {m : Nat} {c : BoundsCode}, 0 ≤ n → n ≤ m → (Instr.sliceBound (.int k n) m c).run E.P w = .ok n.toNat w := fun h1 h2 => run_sliceBound w _ _ _ _ h1 h2
  unfold cutV at hv
  split at hv
  · rename_i l hu
    have hs : ∀ A B C D : Option Value, (Instr.sliceAt t (.string (toBA l)) A B C).run E.P w = (Instr.slice t (.string (toBA l)) A B C).run E.P w := fun A B C D => by simp [Instr.sliceAt, run_und E.P w hu]
    cases hx with
    | s _ hl' =>
      split at hv
      · obtain rfl := Option.some.inj hv
        rw [hl0 rfl, hh0 rfl, hs _ _ _ none]
        exact ⟨.string (toBA l), by simp [Instr.slice, run_und E.P w hu, Instr.sliceBounds], .s _ hl'⟩
      · rename_i k m
        obtain ⟨A, e1, hA⟩ := hh _ rfl
        obtain rfl := ii hA
        split at hv
        · rename_i hq
          obtain rfl := Option.some.inj hv
          rw [hl0 rfl, e1, hs _ _ _ none]
          have := bound (k := k) (c := .sliceAlen) hq.1 (m := (toBA l).size) (by rw [toBA_size]; exact hq.2)
          refine ⟨.string ((toBA l).extract 0 m.toNat), by simp [Instr.slice, run_und E.P w hu, Instr.sliceBounds, this], ?_⟩
          rw [extr]; have := str_cut hl' 0 m.toNat
          exact .s _ (by simpa using this)
        · cases hv
      · rename_i k m
        obtain ⟨A, e1, hA⟩ := hl _ rfl
        obtain rfl := ii hA
        split at hv
        · rename_i hq
          obtain rfl := Option.some.inj hv
          rw [hh0 rfl, e1, hs _ _ _ none]
          have := bound (k := k) (c := .sliceB) hq.1 (m := (toBA l).size) (by rw [toBA_size]; exact hq.2)
          refine ⟨.string ((toBA l).extract m.toNat (toBA l).size), by simp [Instr.slice, run_und E.P w hu, Instr.sliceBounds, this], ?_⟩
          rw [extr, toBA_size]
          have := str_cut hl' m.toNat (l.length - m.toNat)
          rw [List.take_of_length_le (by simp)] at this ⊢
          exact .s _ this
        · cases hv
      · rename_i k m k' m'
        obtain ⟨A, e1, hA⟩ := hl _ rfl
        obtain rfl := ii hA
        obtain ⟨B, e2, hB⟩ := hh _ rfl
        obtain rfl := ii hB
        split at hv
        · rename_i hq
          obtain rfl := Option.some.inj hv
          rw [e1, e2, hs _ _ _ none]
          have b1 := bound (k := k') (c := .sliceAlen) (n := m') (m := (toBA l).size) (by omega) (by rw [toBA_size]; exact hq.2.2)
          have b2 := bound (k := k) (c := .sliceB) (n := m) (m := m'.toNat) (by omega) (by omega)
          refine ⟨.string ((toBA l).extract m.toNat m'.toNat), by simp [Instr.slice, run_und E.P w hu, Instr.sliceBounds, b1, b2], ?_⟩
          rw [extr]
          exact .s _ (str_cut hl' _ _)
        · cases hv
      · cases hv
  · rename_i e b o n z hu
    split at hv
    case isFalse => cases hv
    rename_i hz
    have hd : ∀ A B C : Option Value, (Instr.sliceAt t X A B C).run E.P w = (Instr.slice t X A B C).run E.P w := fun A B C => by simp [Instr.sliceAt, run_und E.P w hu]
    have hs : (Go.sizeOf e).run E.P w = .ok z w := by
      obtain ⟨rfl, h0⟩ := hz
      exact run_size0 (by omega)
    have key : ∀ {a m : Nat}, a + m ≤ n → ∃ A c, X = .slice A n c ∧ R r (.sl b (o + a * z) m z) (.slice (if c = a then A else A.map (·.add (a * z))) m (c - a)) ∧ n ≤ c := by
      intro a m ham
      cases hx with
      | sl _ _ _ _ c L hL hc hn hb =>
        refine ⟨_, c, rfl, ?_, hn⟩
        by_cases hca : c = a
        · rw [if_pos hca]
          have : m = 0 := by omega
          subst this; subst hca
          rw [Nat.sub_self]
          exact .s0 _ _ _ _ _ hL
        · rw [if_neg hca]
          simp only [Option.map_some, add_none]
          rw [Nat.add_assoc]
          refine .sl _ _ _ _ _ L hL ?_ (by omega) (by omega)
          have : c = a + (c - a) := by omega
          rw [this, Nat.add_mul] at hc
          omega
      | s0 _ _ _ A y hy =>
        have : a = 0 := by omega
        subst this
        refine ⟨_, 0, rfl, ?_, by omega⟩
        have : m = 0 := by omega
        subst this
        exact .s0 _ _ _ _ _ hy
      | sn _ _ hy =>
        have : a = 0 := by omega
        subst this
        refine ⟨_, 0, rfl, ?_, by omega⟩
        have : m = 0 := by omega
        subst this
        simpa using R.sn b z hy
    split at hv
    · obtain rfl := Option.some.inj hv
      rw [hl0 rfl, hh0 rfl, hd]
      obtain ⟨A, c, rfl, hR, hc⟩ := key (a := 0) (m := n) (by omega)
      refine ⟨_, by simp [Instr.slice, run_und E.P w hu, Instr.sliceBounds, hs]; rfl, ?_⟩
      simpa using hR
    · rename_i k m
      obtain ⟨B, e1, hB⟩ := hh _ rfl
      obtain rfl := ii hB
      split at hv
      · rename_i hq
        obtain rfl := Option.some.inj hv
        rw [hl0 rfl, e1, hd]
        obtain ⟨A, c, rfl, hR, hc⟩ := key (a := 0) (m := m.toNat) (by omega)
        have b1 := bound (k := k) (c := .sliceAcap) (n := m) (m := c) (by omega) (by omega)
        refine ⟨_, by simp [Instr.slice, run_und E.P w hu, Instr.sliceBounds, hs, b1]; rfl, ?_⟩
        simpa using hR
      · cases hv
    · rename_i k m
      obtain ⟨B, e1, hB⟩ := hl _ rfl
      obtain rfl := ii hB
      split at hv
      · rename_i hq
        obtain rfl := Option.some.inj hv
        rw [hh0 rfl, e1, hd]
        obtain ⟨A, c, rfl, hR, hc⟩ := key (a := m.toNat) (m := n - m.toNat) (by omega)
        have b1 := bound (k := k) (c := .sliceB) (n := m) (m := n) (by omega) (by omega)
        refine ⟨_, by simp [Instr.slice, run_und E.P w hu, Instr.sliceBounds, hs, b1]; rfl, ?_⟩
        simpa using hR
      · cases hv
    · rename_i k m k' m'
      obtain ⟨B, e1, hB⟩ := hl _ rfl
      obtain rfl := ii hB
      obtain ⟨C, e2, hC⟩ := hh _ rfl
      obtain rfl := ii hC
      split at hv
      · rename_i hq
        obtain rfl := Option.some.inj hv
        rw [e1, e2, hd]
        obtain ⟨A, c, rfl, hR, hc⟩ := key (a := m.toNat) (m := m'.toNat - m.toNat) (by omega)
        have b1 := bound (k := k') (c := .sliceAcap) (n := m') (m := c) (by omega) (by omega)
        have b2 := bound (k := k) (c := .sliceB) (n := m) (m := m'.toNat) (by omega) (by omega)
        refine ⟨_, by simp [Instr.slice, run_und E.P w hu, Instr.sliceBounds, hs, b1, b2]; rfl, ?_⟩
        simpa using hR
      · cases hv
    · cases hv
  · cases hv
end
def Aft (E : Env) (r : List (Option Loc)) (h : Heap) (w : World) (v : V) (h' : Heap) (x : Value) (w' : World) : Prop := ∃ r', R r' v x ∧ HR E.G r' h' w'.heap ∧ Keep r h w r' h' w'
section
variable {E : Env} {w : World} {r : List (Option Loc)} {h : Heap}
theorem Aft.pure (hr : HR E.G r h w.heap) {v : V} {x : Value} (hv : R r v x) : Aft E r h w v h x w := ⟨r, hv, hr, Keep.refl r h w⟩
theorem RL.cell {l : List V} {c : Array Value} (hl : RL r l c.toList) : ∀ (j : Nat) v, l[j]? = some v → ∃ x, c[j]? = some x ∧ R r v x := fun j v hj => by
  obtain ⟨x, h1, h2⟩ := hl.get? hj
  exact ⟨x, by simpa using h1, h2⟩
theorem Aft.grown (hr : HR E.G r h w.heap) {w' : World} {o : Obj} (hw : w'.heap = w.heap.push o) (ho : w'.os = w.os) (ht : w'.tape = w.tape) (hou : w'.output = w.output) {v : V} {x : Value} (hv : R r v x) : Aft E r h w v h x w' := by
  have hb : ∀ k, k < w.heap.size → w'.heap[k]? = w.heap[k]? := fun k hk => by rw [hw, Array.getElem?_push_lt hk]; exact (Array.getElem?_eq_getElem hk).symm
  exact ⟨r, hv, hr.heap (fun i b L a1 a2 a3 => hb _ (hr.lt a1 a2 a3)) fun g hg => hb _ (hr.glt hg), ⟨List.prefix_refl _, by rw [hw]; simp, ho, ht, hou, fun k hk _ => hb k hk, fun i b L h1 h2 h3 _ => ⟨i, b, L, h1, h2, h3, rfl⟩⟩⟩
theorem Aft.new (hr : HR E.G r h w.heap) {w' : World} {c : Array Value} {e : TypeId} {fz : Nat × Nat} (hw : w'.heap = w.heap.push (.cells c e fz)) (ho : w'.os = w.os) (ht : w'.tape = w.tape) (hou : w'.output = w.output)
    {x : Bool} {l : List V} {cap : Nat} (hl : ∀ (j : Nat) v, l[j]? = some v → ∃ y, c[j]? = some y ∧ R r v y) (hx : x = true → cap = l.length) (h1 : cap ≤ c.size) (h2 : l.length ≤ cap) (h3 : ∀ q, q < cap → ¬ (fz.1 ≤ q ∧ q < fz.2))
    {v : V} {y : Value} (hv : R (r ++ [some ⟨w.heap.size, 0, cap⟩]) v y) : Aft E r h w v (h ++ [⟨2, x, l⟩]) y w' := by
  obtain ⟨a, b⟩ := hr.new (cap := cap) hw ho ht hou (b := ⟨2, x, l⟩) rfl hl hx h1 h2 h3
  exact ⟨_, hv, a, b⟩
theorem get_last (hr : HR E.G r h w.heap) (y : Option Loc) : (r ++ [y])[h.length]? = some y := by rw [← hr.len]; simp
theorem zeroT_ok {t : TypeId} {l : List V} (hz : zeroT E.P t = some l) : ∃ i z, E.P.info? t = some i ∧ i.zero = some z ∧ (zeroValue t).run E.P w = .ok z w ∧ RL r l z.cells.toList ∧ l.all isOne = true ∧ l.length = z.cells.size := by
  unfold zeroT at hz
  split at hz
  · rename_i i hi
    split at hz
    · rename_i z hz0
      split at hz
      · rename_i ha
        obtain rfl := Option.some.inj hz
        obtain ⟨a, b⟩ := RL.map_cv1 (r := r) ha
        exact ⟨i, z, hi, hz0, by simp [zeroValue, typeInfo, hi, hz0], a, b, by simp⟩
      · cases hz
    · cases hz
  · cases hz
theorem alloc_ok (hr : HR E.G r h w.heap) {t : TypeId} {z : List V} (hz : zeroT E.P t = some z) : ∃ x w', (Instr.alloc t true (.tuple #[])).run E.P w = .ok x w' ∧ Aft E r h w (.p h.length 0) (h ++ [⟨2, true, z⟩]) x w' := by
  obtain ⟨i, Z, hi, hz0, hrun, hl, _, hlen⟩ := zeroT_ok (w := w) (r := r) hz
  refine ⟨.pointer (some ⟨w.heap.size, 0, none⟩), { w with heap := w.heap.push (.cells Z.cells t (0, 0)) }, by simp [Instr.alloc, hrun, newVar, newRow], ?_⟩
  exact Aft.new (w' := { w with heap := w.heap.push (.cells Z.cells t (0, 0)) }) (e := t) (fz := (0, 0)) (c := Z.cells) hr rfl rfl rfl rfl (cap := z.length) hl.cell (fun _ => rfl) (by omega) (Nat.le_refl _) (by simp) (.p _ 0 ⟨w.heap.size, 0, z.length⟩ (get_last hr _))
theorem nil_run {P : Program} (w : World) {t e : TypeId} {X : Value} (hu : P.underlying t = some (.slice e)) (d : Nat) {a : Addr} {m c : Nat} : (Op.equalIn (d + 1) t (.slice (some a) m c) (.slice none 0 0)).run P w = .ok false w ∧ (Op.equalIn (d + 1) t (.slice none m c) (.slice none 0 0)).run P w = .ok true w := by
  constructor <;> (rw [Op.equalIn]; simp only [Sem.run_bind, run_und P w hu, Result.andThen_ok]; rfl)
theorem nilV_ok (hr : HR E.G r h w.heap) {op : BinOp} {t : TypeId} {v u : V} {X : Value} (hx : R r v X) (hv : nilV E.P h op t v = some u) (a b : Operand) : ∃ Z, (do eqGuard op t a b X (.slice none 0 0); binOp op t X (.slice none 0 0) : Sem Value).run E.P w = .ok Z w ∧ R r u Z := by
  have non : ∀ {b o n z : Nat}, R r (.sl b o n z) X → hasC h b n = true → ∃ A m c, X = .slice (some A) m c := by
    intro b o n z hx hc
    cases hx with
    | sl _ _ _ _ c L => exact ⟨_, _, _, rfl⟩
    | s0 => exact ⟨_, _, _, rfl⟩
    | sn _ _ hn =>
      exfalso
      unfold hasC at hc
      simp only at hc
      split at hc
      · rename_i st x c cs hb
        have h1 := hget_some hb (by simp)
        rcases hr.blk _ _ _ h1 hn with h2 | h2
        · cases h2
        · cases h2
      · cases hc
  have free : X ≠ .nilIface → (∀ c, X ≠ .agg c) → (∃ Z, (binOp op t X (.slice none 0 0)).run E.P w = .ok Z w ∧ R r u Z) → ∃ Z, (do eqGuard op t a b X (.slice none 0 0); binOp op t X (.slice none 0 0) : Sem Value).run E.P w = .ok Z w ∧ R r u Z := by
    rintro h1 h2 ⟨Z, h3, h4⟩
    refine ⟨Z, ?_, h4⟩
    rw [Sem.run_bind, guard_free w a b h1 h2]
    exact h3
  unfold nilV at hv
  split at hv
  · rename_i e bb o n z hu
    split at hv
    · rename_i hc
      obtain rfl := Option.some.inj hv
      obtain ⟨A, m, c, rfl⟩ := non hx hc
      refine free (by simp) (by simp) ⟨.bool false, ?_, .b _⟩
      simp only [binOp]; simp [Op.equal, Op.maxDepth, (nil_run (X := .nilIface) w hu 9999).1]
    · cases hv
  · rename_i e bb o n z hu
    split at hv
    · rename_i hc
      obtain rfl := Option.some.inj hv
      obtain ⟨A, m, c, rfl⟩ := non hx hc
      refine free (by simp) (by simp) ⟨.bool true, ?_, .b _⟩
      simp only [binOp]; simp [Op.equal, Op.maxDepth, (nil_run (X := .nilIface) w hu 9999).1]
    · cases hv
  · rename_i e hu
    obtain rfl := Option.some.inj hv
    cases hx
    refine free (by simp) (by simp) ⟨.bool true, ?_, .b _⟩
    simp only [binOp]; simp [Op.equal, Op.maxDepth, (nil_run (X := .nilIface) (a := ⟨0, 0, none⟩) w hu 9999).2]
  · rename_i e hu
    obtain rfl := Option.some.inj hv
    cases hx
    refine free (by simp) (by simp) ⟨.bool false, ?_, .b _⟩
    simp only [binOp]; simp [Op.equal, Op.maxDepth, (nil_run (X := .nilIface) (a := ⟨0, 0, none⟩) w hu 9999).2]
  · rename_i e hu
    obtain rfl := Option.some.inj hv
    cases hx
    refine free (by simp) (by simp) ⟨.bool false, ?_, .b _⟩
    simp only [binOp]; simp [Op.equal, Op.maxDepth, (nil_run (X := .nilIface) w hu 9999).1]
  · rename_i e hu
    obtain rfl := Option.some.inj hv
    cases hx
    refine free (by simp) (by simp) ⟨.bool true, ?_, .b _⟩
    simp only [binOp]; simp [Op.equal, Op.maxDepth, (nil_run (X := .nilIface) w hu 9999).1]
  · cases hv
theorem box_ok (hr : HR E.G r h w.heap) {t : TypeId} {v : V} {X : Value} (hv : R r v X) (h1 : (cellsV v).all isOne = true) : ∃ x w', (Instr.box t X).run E.P w = .ok x w' ∧ Aft E r h w (.p h.length 0) (h ++ [⟨2, true, cellsV v⟩]) x w' := by
  obtain ⟨hl, _⟩ := cells_ok hv h1
  refine ⟨.pointer (some ⟨w.heap.size, 0, none⟩), { w with heap := w.heap.push (.cells X.cells t (0, 0)) }, by simp [Instr.box, newVar, newRow], ?_⟩
  have := hl.length
  exact Aft.new (w' := { w with heap := w.heap.push (.cells X.cells t (0, 0)) }) (e := t) (fz := (0, 0)) (c := X.cells) hr rfl rfl rfl rfl (cap := (cellsV v).length) hl.cell (fun _ => rfl) (by simp at this; omega) (Nat.le_refl _) (by simp) (.p _ 0 ⟨w.heap.size, 0, (cellsV v).length⟩ (get_last hr _))
theorem run_storeCells_fz (P : Program) (K o : Nat) (e : TypeId) (fz : Nat × Nat) : ∀ (vs : List Value) (i : Nat) (c : Array Value) (w : World), w.heap[K]? = some (.cells c e fz) → o + i + vs.length ≤ c.size →
    (∀ q, o + i ≤ q → q < o + i + vs.length → ¬ (fz.1 ≤ q ∧ q < fz.2)) → (∀ v ∈ vs, v.oneCell' = true) →
    ∃ c' w', (storeCells ⟨K, o, none⟩ vs i).run P w = .ok () w' ∧ w'.heap[K]? = some (.cells c' e fz) ∧ c'.size = c.size ∧ (∀ q, (q < o + i ∨ o + i + vs.length ≤ q) → c'[q]? = c[q]?) ∧ (∀ q, q < vs.length → c'[o + i + q]? = vs[q]?) ∧
      (∀ k, k ≠ K → w'.heap[k]? = w.heap[k]?) ∧ w'.heap.size = w.heap.size ∧ w'.os = w.os ∧ w'.tape = w.tape ∧ w'.output = w.output
  | [], i, c, w, hK, hl, hf, h1 => ⟨c, w, rfl, hK, rfl, fun _ _ => rfl, fun q hq => by simp at hq, fun _ _ => rfl, rfl, rfl, rfl, rfl⟩
  | v :: vs, i, c, w, hK, hl, hf, h1 => by
    simp only [List.length_cons] at hl hf
    have hlt : o + i < c.size := by omega
    have hcell : w.cell? ⟨K, o + i, none⟩ = some c[o + i] := by rw [cell_of hK]; exact Array.getElem?_eq_getElem hlt
    have hfr : w.frozen? ⟨K, o + i, none⟩ = false := by
      have := hf (o + i) (by omega) (by omega)
      simp only [World.frozen?, hK]
      rw [Bool.and_eq_false_iff, decide_eq_false_iff_not, decide_eq_false_iff_not]
      omega
    have hst := run_store P w ⟨K, o + i, none⟩ v .plain (h1 v (by simp))
    rw [hcell] at hst
    simp only [hfr, Bool.false_eq_true, if_false] at hst
    have hset : (w.setCell ⟨K, o + i, none⟩ v).heap[K]? = some (.cells (c.setIfInBounds (o + i) v) e fz) := by
      simp only [World.setCell, Array.getElem?_modify, if_true, hK, Option.map_some]; rfl
    have hoth : ∀ k, k ≠ K → (w.setCell ⟨K, o + i, none⟩ v).heap[k]? = w.heap[k]? := fun k hk => by
      simp only [World.setCell, Array.getElem?_modify]; rw [if_neg (by simpa using fun e => hk e.symm)]
    obtain ⟨c', w', hrun, h2, h3, h4, h5, h6, h7, h8, h9, h10⟩ := run_storeCells_fz P K o e fz vs (i + 1) (c.setIfInBounds (o + i) v) (w.setCell ⟨K, o + i, none⟩ v) hset (by simp; omega) (fun q a b => hf q (by omega) (by omega)) (fun u hu => h1 u (by simp [hu]))
    refine ⟨c', w', ?_, h2, by simpa using h3, ?_, ?_, fun k hk => (h6 k hk).trans (hoth k hk), by simpa using h7, h8, h9, h10⟩
    · simp only [storeCells, add_none, Sem.run_bind, hst, Result.andThen_ok, hrun]
    · intro q hq
      simp only [List.length_cons] at hq
      rw [h4 q (by omega), Array.getElem?_setIfInBounds_ne (by omega)]
    · intro q hq
      simp only [List.length_cons] at hq
      cases q with
      | zero =>
        rw [h4 (o + i + 0) (by omega)]
        simp [hlt]
      | succ q =>
        have := h5 q (by omega)
        rw [show o + i + (q + 1) = o + (i + 1) + q by omega, this]
        simp
theorem spl_get : ∀ (vs c : List V) (o q : Nat), o + vs.length ≤ c.length → (spl c o vs)[q]? = if o ≤ q ∧ q < o + vs.length then vs[q - o]? else c[q]?
  | [], c, o, q, h => by simp only [spl]; rw [if_neg (by simp)]
  | v :: vs, c, o, q, h => by
    simp only [List.length_cons] at h
    simp only [spl]
    rw [spl_get vs (c.set o v) (o + 1) q (by simp; omega)]
    by_cases h1 : q = o
    · subst h1
      rw [if_neg (by omega), if_pos (by simp)]
      rw [Nat.sub_self, List.getElem?_set_self (by omega)]; rfl
    · rw [List.getElem?_set_ne (by omega)]
      by_cases h2 : o + 1 ≤ q ∧ q < o + 1 + vs.length
      · rw [if_pos h2, if_pos (by simp; omega)]
        rw [show q - o = q - (o + 1) + 1 by omega]; simp
      · rw [if_neg h2, if_neg (by simp; omega)]
theorem spl_length : ∀ (vs c : List V) (o : Nat), (spl c o vs).length = c.length
  | [], c, o => rfl
  | v :: vs, c, o => by simp [spl, spl_length vs]
/-- what is one's own is written to: the block is dead for a while -/
theorem HR.inplace (hr : HR E.G r h w.heap) {i : Nat} {b : Blk} {L : Loc} (hi : h[i]? = some b) (hb : Own b) (hL : r[i]? = some (some L)) {w' : World} (hw : ∀ k, k ≠ L.block → w'.heap[k]? = w.heap[k]?) (hs : w'.heap.size = w.heap.size)
    (ho : w'.os = w.os) (ht : w'.tape = w.tape) (hou : w'.output = w.output) :
    HR E.G r (h.set i dead) w'.heap ∧ Keep r h w r (h.set i dead) w' ∧ (∀ (j : Nat) (b' : Blk) (L' : Loc), j ≠ i → h[j]? = some b' → Live b' → r[j]? = some (some L') → L.block ≠ L'.block) ∧ ∀ g, E.G g ≠ [] → L.block ≠ g := by
  have hu : ∀ (j : Nat) (b' : Blk) (L' : Loc), j ≠ i → h[j]? = some b' → Live b' → r[j]? = some (some L') → L.block ≠ L'.block := fun j b' L' hj h1 h2 h3 => hr.uniq i j b b' L L' hi h1 hb h2 (Ne.symm hj) hL h3
  have hg : ∀ g, E.G g ≠ [] → L.block ≠ g := fun g h0 => hr.globn g h0 i b L hi hb hL
  have key : ∀ {j : Nat} {b' : Blk}, (h.set i dead)[j]? = some b' → Live b' → j ≠ i ∧ h[j]? = some b' := by
    intro j b' hj h0
    rw [List.getElem?_set] at hj
    split at hj
    · split at hj
      · obtain rfl := Option.some.inj hj; exact absurd h0 live_dead
      · cases hj
    · rename_i e; exact ⟨fun h => e h.symm, hj⟩
  refine ⟨(hr.kill i).heap ?_ (fun g h0 => hw g (Ne.symm (hg g h0))), ⟨List.prefix_refl _, by omega, ho, ht, hou, fun k hk hn => hw k (Ne.symm (hn i b L hi hb hL)), ?_⟩, hu, hg⟩
  · intro j b' L' h1 h2 h3
    obtain ⟨hj, h1⟩ := key h1 h2
    exact hw _ (Ne.symm (hu j b' L' hj h1 h2 h3))
  · intro j b' L' h1 h2 h3 h4
    obtain ⟨hj, h1⟩ := key h1 h2.live
    exact ⟨j, b', L', h1, h2, h3, rfl⟩
theorem set_set_dead (h : Heap) (i : Nat) (b : Blk) : (h.set i dead).set i b = h.set i b := by simp
theorem storeV_ok (hr : HR E.G r h w.heap) {t : TypeId} {a v : V} {A X : Value} (ha : R r a A) (hv : R r v X) {h' : Heap} (hs : storeV E h t a v = some h') : ∃ w', (Instr.storeAt t A X).run E.P w = .ok () w' ∧ HR E.G r h' w'.heap ∧ Keep r h w r h' w' := by
  unfold storeV at hs
  split at hs
  · rename_i b o
    split at hs
    · rename_i x c hb
      split at hs
      · rename_i hc
        obtain ⟨c1, c2, c3, c4⟩ := hc
        obtain rfl := Option.some.inj hs
        have hb' := hget_some hb (by simp)
        cases ha with
        | p _ _ L hL =>
          obtain ⟨hl, hone⟩ := cells_ok hv c4
          have hlen := hl.length
          rcases hr.blk b _ _ hb' hL with h0 | ⟨C, e, fz, d1, d2, d3, d4⟩
          · simp at h0
          obtain ⟨e1, e2, e3⟩ := d4 rfl
          simp only at d2 d3 e2
          obtain ⟨C', w', f1, f2, f3, f4, f5, f6, f7, f8, f9, f10⟩ := run_storeCells_fz E.P L.block (L.off + o) e fz X.cells.toList 0 C w d1 (by omega) (fun q q1 q2 => e3 q (by omega) (by omega)) hone
          obtain ⟨g1, g2, g3, g4⟩ := hr.inplace hb' (.inl rfl) hL f6 f7 f8 f9 f10
          have hsz : (Go.sizeOf t).run E.P w = .ok (E.P.cellsOf t) w := run_size0 (by omega)
          have hX : X.cells.size = E.P.cellsOf t := by rw [← c1, ← hlen]; simp
          refine ⟨w', by simp [Instr.storeAt, Instr.sureAddr, storeVar, hsz, hX, f1], ?_, ?_⟩
          · rw [← set_set_dead]
            refine g1.revive hL (.inr ⟨C', e, fz, f2, ?_, ?_, ?_⟩) (by simp) ?_ ?_
            · intro j u hj
              simp only at hj
              rw [spl_get _ _ _ _ c3] at hj
              split at hj
              · rename_i hq
                obtain ⟨y, h1, h2⟩ := hl.get? hj
                refine ⟨y, ?_, h2⟩
                have := f5 (j - o) (by omega)
                rw [← h1, ← this]; congr 1; omega
              · rename_i hq
                obtain ⟨y, h1, h2⟩ := d2 j u hj
                exact ⟨y, by rw [f4 _ (by omega), h1], h2⟩
            · intro hx; simp only [spl_length]; exact d3 hx
            · intro _; simp only [spl_length]; exact ⟨by omega, e2, e3⟩
            · intro j b' L1 L2 hL1 hj h1 h2 h3
              obtain rfl := Option.some.inj hL1
              have : h[j]? = some b' := by rwa [List.getElem?_set_ne (Ne.symm hj)] at h1
              exact g3 j b' L2 hj this h2 h3
            · intro g L1 hg hL1
              obtain rfl := Option.some.inj hL1
              exact g4 g hg
          · refine ⟨g2.pre, g2.size, g2.os, g2.tape, g2.output, g2.block, ?_⟩
            intro j b' L1 h1 h2 h3 h4
            rw [List.getElem?_set] at h1
            split at h1
            · rename_i hj; subst hj
              exact ⟨b, _, L, hb', .inl rfl, hL, by rw [hL] at h3; obtain rfl := Option.some.inj (Option.some.inj h3); rfl⟩
            · exact ⟨j, b', L1, h1, h2, h3, rfl⟩
      · cases hs
    · cases hs
  · cases hs
end
section
variable {E : Env} {w : World} {r : List (Option Loc)} {h : Heap}
theorem RL.spl {l : List V} : ∀ {vs : List V} {xs : List Value}, RL r vs xs → ∀ {c : List V} {C : Array Value} (o k : Nat), RL r c C.toList → RL r (GoD.spl c (o + k) vs) ((xs.zipIdx k).foldl (fun cs (p : Value × Nat) => cs.setIfInBounds (o + p.2) p.1) C).toList
  | _, _, .nil, c, C, o, k, hc => by simpa [GoD.spl] using hc
  | _, _, .cons (v := v) (x := x) hv ht, c, C, o, k, hc => by
    simp only [GoD.spl, List.zipIdx_cons, List.foldl_cons]
    have := RL.spl (l := l) ht (c := c.set (o + k) v) (C := C.setIfInBounds (o + k) x) o (k + 1) (by simpa using hc.set hv (o + k))
    simpa [Nat.add_assoc] using this
theorem fillV_ok {pV pM : Nat → Option (Nat × Nat)} (hp : ∀ i p, pV i = some p → pM i = some p) : ∀ {parts : List (Nat × V)} {Parts : List (Nat × Value)} {c : List V} {C : Array Value} {l : List V}, parts.length = Parts.length →
    (∀ (i : Nat) p q, parts[i]? = some p → Parts[i]? = some q → p.1 = q.1 ∧ R r p.2 q.2) → RL r c C.toList → c.all isOne = true → fillV pV c parts = some l → ∃ L, Instr.fill pM C Parts = some L ∧ RL r l L.toList ∧ l.all isOne = true
  | [], [], c, C, l, _, _, hc, h1, hf => by
    simp only [fillV, Option.some.injEq] at hf
    subst hf
    exact ⟨C, rfl, hc, h1⟩
  | (i, v) :: parts, (j, x) :: Parts, c, C, l, hlen, hh, hc, h1, hf => by
    obtain ⟨e1, hv⟩ := hh 0 _ _ rfl rfl
    simp only at e1 hv
    subst e1
    simp only [fillV] at hf
    split at hf
    · cases hf
    · rename_i off size hpl
      split at hf
      · rename_i hq
        obtain ⟨q1, q2, q3⟩ := hq
        obtain ⟨hcs, _⟩ := cells_ok hv q3
        have hl1 := hcs.length
        have hl2 := hc.length
        simp only [Array.length_toList] at hl1 hl2
        have e2 := RL.spl (l := l) hcs off 0 hc
        have e3 : (GoD.spl c off (cellsV v)).all isOne = true := by
          rw [List.all_eq_true] at h1 q3 ⊢
          intro y hy
          obtain ⟨q, hq, rfl⟩ := List.mem_iff_getElem.1 hy
          have hq' := List.getElem?_eq_getElem hq
          rw [spl_get _ _ _ _ q2] at hq'
          split at hq'
          · exact q3 _ (List.mem_of_getElem? hq')
          · exact h1 _ (List.mem_of_getElem? hq')
        obtain ⟨L, f1, f2, f3⟩ := fillV_ok hp (by simpa using hlen) (fun k p q a b => hh (k + 1) p q a b) e2 e3 (by simpa using hf)
        refine ⟨L, ?_, f2, f3⟩
        simp only [Instr.fill, hp _ _ hpl]
        rw [if_neg (by simp; omega)]
        rw [← f1]; congr 1
        rw [← Array.foldl_toList]; simp
      · cases hf
  | [], _ :: _, _, _, _, h, _, _, _, _ => by simp at h
  | _ :: _, [], _, _, _, h, _, _, _, _ => by simp at h
theorem run_mapM {α β : Type} (P : Program) (w : World) (f : α → Sem β) (g : α → β) : ∀ (l : List α), (∀ x ∈ l, (f x).run P w = .ok (g x) w) → (l.mapM f).run P w = .ok (l.map g) w
  | [], _ => by simp
  | x :: l, hh => by
    have h1 := hh x (by simp)
    have h2 := run_mapM P w f g l (fun y hy => hh y (by simp [hy]))
    simp [List.mapM_cons, h1, h2]
theorem buildV_ok {t : TypeId} {parts : List (Nat × V)} {Parts : Array (Nat × Value)} (hlen : parts.length = Parts.toList.length) (hh : ∀ (i : Nat) p q, parts[i]? = some p → Parts.toList[i]? = some q → p.1 = q.1 ∧ R r p.2 q.2) {v : V} (hv : buildV E.P t parts = some v) :
    ∃ X, (Instr.build t Parts).run E.P w = .ok X w ∧ R r v X := by
  unfold buildV at hv
  split at hv
  · cases hv
  · rename_i z hz
    obtain ⟨i, Z, hi, hz0, hrun, hl, hall, hzl⟩ := zeroT_ok (w := w) (r := r) hz
    split at hv
    · rename_i l hf
      obtain ⟨fs, hu, hp, hll⟩ := fieldsT_ok hf
      obtain ⟨c, hc, rfl⟩ := Option.map_eq_some_iff.1 hv
      have hmap : (fs.mapM fun f => (do pure (f.offset, ← Go.sizeOf f.type) : Sem (Nat × Nat))).run E.P w = .ok (fs.map fun f => (f.offset, E.P.cellsOf f.type)) w := by
        have := run_mapM E.P w (fun f : Field => (do pure (f.offset, ← Go.sizeOf f.type) : Sem (Nat × Nat))) (fun f => (f.offset, E.P.cellsOf f.type)) fs.toList (fun f hf => by
          have := run_size0 (E := E) (w := w) (t := f.type) (by have := hp f hf; omega)
          simp [this])
        rw [Array.mapM_eq_mapM_toList, Sem.run_map, this]
        simp only [Result.andThen_ok]
        rw [← Array.toList_map]
      obtain ⟨L, h1, h2, h3⟩ := fillV_ok (pM := fun i => (fs.map fun f => (f.offset, E.P.cellsOf f.type))[i]?) (fun i p hpp => by
        split at hpp
        · rename_i g hg
          obtain ⟨fd, e1, e2, rfl⟩ := field_at hll hg
          obtain rfl := Option.some.inj hpp
          simp [e1]
        · cases hpp) hlen hh hl hall hc
      refine ⟨.agg L, ?_, ?_⟩
      · simp only [Instr.build, Sem.run_bind, hrun, Result.andThen_ok, run_und E.P w hu, hmap, h1, Sem.run_pure]
      · simpa using R.agg (r := r) _ _ h2
    · split at hv
      · rename_i n e hu
        split at hv
        · rename_i hz1
          obtain ⟨c, hc, rfl⟩ := Option.map_eq_some_iff.1 hv
          have hs := run_size0 (E := E) (w := w) (t := e) (by omega)
          obtain ⟨L, h1, h2, h3⟩ := fillV_ok (pM := fun i => some (i * E.P.cellsOf e, E.P.cellsOf e)) (fun _ _ h => h) hlen hh hl hall hc
          refine ⟨.agg L, ?_, ?_⟩
          · simp only [Instr.build, Sem.run_bind, hrun, Result.andThen_ok, run_und E.P w hu, hs, h1, Sem.run_pure]
          · simpa using R.agg (r := r) _ _ h2
        · cases hv
      · cases hv
theorem map0 {f : Nat → Value} : (Array.range 0).map f = #[] := by
  apply Array.toList_inj.1; rw [Array.toList_map, Array.toList_range]; rfl
theorem repL_ok {z : List V} {Z : Array Value} (hl : RL r z Z.toList) : ∀ (n : Nat), RL r (repL n z) ((Array.range (n * Z.size)).map (fun i => Z[i % Z.size]!)).toList ∧ (z.all isOne = true → (repL n z).all isOne = true) ∧ (repL n z).length = n * z.length
  | 0 => by simp [repL]; exact .nil
  | n + 1 => by
    obtain ⟨a, b, c⟩ := repL_ok hl n
    have hlen := hl.length
    simp only [Array.length_toList] at hlen
    refine ⟨?_, fun h => by simp only [repL, List.all_append, h, b h, Bool.and_self], by simp [repL, c]; rw [Nat.add_mul]; omega⟩
    have : ((Array.range ((n + 1) * Z.size)).map (fun i => Z[i % Z.size]!)).toList = Z.toList ++ ((Array.range (n * Z.size)).map (fun i => Z[i % Z.size]!)).toList := by
      have g : ∀ m j, ((Array.range m).map (fun i => Z[i % Z.size]!)).toList[j]? = if j < m then some Z[j % Z.size]! else none := fun m j => by
        rw [Array.toList_map, List.getElem?_map, Array.toList_range]
        by_cases hj : j < m
        · rw [List.getElem?_range hj, if_pos hj]; rfl
        · rw [List.getElem?_eq_none (by simpa using hj), if_neg hj]; rfl
      have e : (n + 1) * Z.size = n * Z.size + Z.size := by rw [Nat.add_mul]; omega
      apply List.ext_getElem?
      intro i
      rw [List.getElem?_append, g, g, Array.length_toList]
      by_cases h1 : i < Z.size
      · rw [if_pos h1, if_pos (by omega), Nat.mod_eq_of_lt h1, Array.getElem?_toList, Array.getElem?_eq_getElem h1, getElem!_pos Z i h1]
      · rw [if_neg h1]
        by_cases h2 : i < (n + 1) * Z.size
        · rw [if_pos h2, if_pos (by omega), Nat.mod_eq_sub_mod (by omega)]
        · rw [if_neg h2, if_neg (by omega)]
    rw [this, repL]
    exact hl.append a
theorem buildSliceV_ok (hr : HR E.G r h w.heap) {t : TypeId} {n : Nat} {parts : List (Nat × V)} {Parts : Array (Nat × Value)} (hlen : parts.length = Parts.toList.length) (hh : ∀ (i : Nat) p q, parts[i]? = some p → Parts.toList[i]? = some q → p.1 = q.1 ∧ R r p.2 q.2)
    {v : V} {h' : Heap} (hv : buildSliceV E.P h t n parts = some (v, h')) : ∃ X w', (Instr.buildSlice t n Parts).run E.P w = .ok X w' ∧ Aft E r h w v h' X w' := by
  unfold buildSliceV at hv
  split at hv
  · rename_i e hu
    split at hv
    · cases hv
    · rename_i z hz
      obtain ⟨i, Z, hi, hz0, hrun, hl, hall, hzl⟩ := zeroT_ok (w := w) (r := r) hz
      split at hv
      · rename_i hq
        obtain ⟨q1, q2, q3⟩ := hq
        split at hv
        · rename_i c hc
          obtain ⟨rfl, rfl⟩ := by simpa using hv
          have hs := run_size0 (E := E) (w := w) (t := e) (by omega)
          obtain ⟨a1, a2, a3⟩ := repL_ok hl n
          obtain ⟨L, h1, h2, h3⟩ := fillV_ok (pM := fun i => some (i * E.P.cellsOf e, E.P.cellsOf e)) (fun _ _ h => h) hlen hh a1 (a2 hall) hc
          have hcl : c.length = n * E.P.cellsOf e := by
            have : ∀ {pl : Nat → Option (Nat × Nat)} {ps : List (Nat × V)} {c c' : List V}, fillV pl c ps = some c' → c'.length = c.length := by
              intro pl ps
              induction ps with
              | nil => intro c c' h; simp [fillV] at h; rw [h]
              | cons p ps ih =>
                intro c c' h
                obtain ⟨i, v⟩ := p
                simp only [fillV] at h
                split at h
                · cases h
                · split at h
                  · rw [ih h, spl_length]
                  · cases h
            rw [this hc, a3, q1]
          have hsz : Z.cells.size = E.P.cellsOf e := by omega
          have hfill0 : n * E.P.cellsOf e = 0 → Instr.fill (fun i => some (i * E.P.cellsOf e, E.P.cellsOf e)) ((Array.range (n * E.P.cellsOf e)).map fun x => (#[] : Array Value)[x % (#[] : Array Value).size]!) Parts.toList = some L := fun h0 => by
            rw [← h1, hsz, h0, map0, map0]
          have hfill1 : Instr.fill (fun i => some (i * E.P.cellsOf e, E.P.cellsOf e)) ((Array.range (n * E.P.cellsOf e)).map fun x => Z.cells[x % Z.cells.size]!) Parts.toList = some L := by
            rw [← h1, hsz]
          refine ⟨.slice (some ⟨w.heap.size, 0, none⟩) n n, { w with heap := w.heap.push (.cells L e (0, 0)) }, ?_, ?_⟩
          · have hle : ¬ n * E.P.cellsOf e > 2 ^ 24 := by omega
            simp only [Instr.buildSlice, Sem.run_bind, run_und E.P w hu, Result.andThen_ok, hs, if_neg hle]
            by_cases h0 : n * E.P.cellsOf e = 0
            · simp only [if_pos h0, Sem.run_bind, Sem.run_pure, Result.andThen_ok, hfill0 h0, newRow, run_newObj]
            · simp only [if_neg h0, Sem.run_bind, Sem.run_pure, Result.andThen_ok, hrun, hfill1, newRow, run_newObj]
          · have hL := h2.length
            simp only [Array.length_toList] at hL
            refine Aft.new (w' := { w with heap := w.heap.push (.cells L e (0, 0)) }) (e := e) (fz := (0, 0)) (c := L) hr rfl rfl rfl rfl (cap := c.length) h2.cell (fun _ => rfl) (by omega) (Nat.le_refl _) (by simp) ?_
            refine .sl _ 0 n _ n ⟨w.heap.size, 0, c.length⟩ (get_last hr _) (by simp; omega) (Nat.le_refl _) ?_
            have : n * 1 ≤ n * E.P.cellsOf e := Nat.mul_le_mul_left _ q2
            omega
        · cases hv
      · cases hv
  · cases hv
theorem makeSliceV_ok (hr : HR E.G r h w.heap) {t : TypeId} {l c v : V} {L C : Value} (hl : R r l L) (hc : R r c C) {h' : Heap} (hv : makeSliceV E.P h t l c = some (v, h')) : ∃ X w', (Instr.makeSlice t L C).run E.P w = .ok X w' ∧ Aft E r h w v h' X w' := by
  unfold makeSliceV at hv
  split at hv
  · rename_i e k n k' m hu
    cases hl with
    | i _ _ hk => cases hc with
      | i _ _ hk' =>
        split at hv
        · rename_i z hz
          obtain ⟨i, Z, hi, hz0, hrun, hzl, hall, hzs⟩ := zeroT_ok (w := w) (r := r) hz
          split at hv
          · rename_i hq
            obtain ⟨q1, q2, q3, q4, q5, q6⟩ := hq
            obtain ⟨rfl, rfl⟩ := by simpa using hv
            have hs := run_size0 (E := E) (w := w) (t := e) (by omega)
            have hb : E.P.bytesOf e = i.bytes := by simp [Program.bytesOf, hi]
            have w1 : IntKind.i64.wrap n = n := by rw [wrap_iff]; simp [GoD.lo, GoD.hi, IntKind.signed, IntKind.bits]; omega
            have w2 : IntKind.i64.wrap m = m := by rw [wrap_iff]; simp [GoD.lo, GoD.hi, IntKind.signed, IntKind.bits]; omega
            obtain ⟨a1, a2, a3⟩ := repL_ok hzl m.toNat
            have hm : (i.bytes : Int) * m ≤ 2 ^ 48 := by
              have h1 : (i.bytes : Int) ≤ 16777216 := by omega
              have h2 : (i.bytes : Int) * m ≤ 16777216 * m := Int.mul_le_mul_of_nonneg_right h1 (by omega)
              have h3 : (16777216 : Int) * m ≤ 16777216 * 16777216 := Int.mul_le_mul_of_nonneg_left q5 (by omega)
              omega
            refine ⟨.slice (some ⟨w.heap.size, 0, none⟩) n.toNat m.toNat, { w with heap := w.heap.push (.cells ((Array.range (m.toNat * Z.cells.size)).map (fun j => Z.cells[j % Z.cells.size]!)) e (0, 0)) }, ?_, ?_⟩
            · have t1 : (m < 0 || (i.bytes : Int) * m > 2 ^ 48) = false := by
                rw [Bool.or_eq_false_iff, decide_eq_false_iff_not, decide_eq_false_iff_not]; omega
              have hsz : Z.cells.size = E.P.cellsOf e := by omega
              simp only [Instr.makeSlice, Sem.run_bind, run_und E.P w hu, Result.andThen_ok, asInt, asIntOf, Sem.run_pure, typeInfo, run_program, hi, w1, w2]
              rw [if_neg (by rw [t1, Bool.false_or, Bool.or_eq_true, decide_eq_true_iff, decide_eq_true_iff]; omega)]
              simp only [Sem.run_bind, run_askRoom, Result.andThen_ok, hs, ← hsz]
              by_cases h0 : m.toNat * Z.cells.size = 0
              · simp only [if_pos h0, Sem.run_bind, Sem.run_pure, Result.andThen_ok, newRow, run_newObj]
                simp only [h0, map0]
              · simp only [if_neg h0, Sem.run_bind, Sem.run_pure, Result.andThen_ok, hrun, newRow, run_newObj]
            · have hL := a1.length
              simp only [Array.length_toList] at hL
              refine Aft.new (w' := { w with heap := w.heap.push (.cells ((Array.range (m.toNat * Z.cells.size)).map (fun j => Z.cells[j % Z.cells.size]!)) e (0, 0)) }) (e := e) (fz := (0, 0)) (c := (Array.range (m.toNat * Z.cells.size)).map (fun j => Z.cells[j % Z.cells.size]!)) hr rfl rfl rfl rfl (cap := (repL m.toNat z).length) a1.cell (fun _ => rfl) (by omega) (Nat.le_refl _) (by simp) ?_
              exact .sl _ 0 _ _ m.toNat ⟨w.heap.size, 0, (repL m.toNat z).length⟩ (get_last hr _) (by simp [a3, q1]) (by omega) (by omega)
          · cases hv
        · cases hv
  · cases hv
end
section
variable {E : Env} {w : World} {r : List (Option Loc)} {h : Heap}
theorem sliceCells_ok (hr : HR E.G r h w.heap) {sz : Nat} {x : V} {X : Value} (hx : R r x X) {n : Nat} {l : List V} (hs : sliceCells h sz x = some (n, l)) :
    ∃ A c, X = .slice A n c ∧ l.length = n * sz ∧ ∃ xs : List Value, RL r l xs ∧ (Builtin.firstCells sz n X).run E.P w = .ok xs.toArray w := by
  unfold sliceCells at hs
  split at hs
  · obtain ⟨rfl, rfl⟩ := by simpa using hs
    cases hx with
    | c => exact ⟨none, 0, rfl, by simp, [], .nil, by simp [Builtin.firstCells]⟩
  · obtain ⟨rfl, rfl⟩ := by simpa using hs
    cases hx with
    | e0 a c => exact ⟨some a, c, rfl, by simp, [], .nil, by simp [Builtin.firstCells, loadCells, loadCellsFrom]⟩
  · rename_i b o m z
    split at hs
    · rename_i hz; subst hz
      split at hs
      · cases hs
      · rename_i st ex c hb
        have hb' := hget_some hb (by simp)
        split at hs
        · rename_i l' hl
          obtain ⟨rfl, rfl⟩ := by simpa using hs
          obtain ⟨h1, h2, h3, h4⟩ := ldN_some hl
          cases hx with
          | sl _ _ _ _ cc L hL hc hn hbb =>
            rcases hr.blk b _ _ hb' hL with h0 | ⟨C, e, fz, d1, d2, _⟩
            · simp at h0
            obtain ⟨xs, hx, hR⟩ := run_ld (P := E.P) (r := r) (o := L.off + o) d1 h3 (fun j v hj => by
              have := d2 _ v (h4 j v hj)
              rwa [← Nat.add_assoc] at this)
            exact ⟨_, cc, rfl, h3, xs, hR, by simp [Builtin.firstCells, hx]⟩
          | s0 _ _ _ A =>
            have : l' = [] := List.eq_nil_of_length_eq_zero (by rw [h3]; simp)
            subst this
            exact ⟨_, 0, rfl, by simp, [], .nil, by simp [Builtin.firstCells, loadCells, loadCellsFrom]⟩
          | sn =>
            have : l' = [] := List.eq_nil_of_length_eq_zero (by rw [h3]; simp)
            subst this
            exact ⟨_, 0, rfl, by simp, [], .nil, by simp [Builtin.firstCells]⟩
        · cases hs
    · cases hs
  · cases hs
theorem bytesV_some : ∀ {l : List V} {m : List Int}, bytesV l = some m → l = m.map (.i .u8)
  | [], m, h => by simp [bytesV] at h; subst h; rfl
  | v :: l, m, h => by
    unfold bytesV at h
    split at h
    · rename_i e; cases e
    · rename_i n r e
      obtain ⟨rfl, rfl⟩ := List.cons.inj e
      obtain ⟨m', h1, rfl⟩ := Option.map_eq_some_iff.1 h
      rw [bytesV_some h1]; rfl
    · cases h
theorem RL.bytes : ∀ {m : List Int} {xs : List Value}, RL r (m.map (.i .u8)) xs → xs = m.map (.int .u8) ∧ ∀ x ∈ m, 0 ≤ x ∧ x < 256
  | [], xs, h => by cases h; simp
  | n :: m, xs, h => by
    cases h with
    | cons hv ht =>
      cases hv with
      | i _ _ hw =>
        obtain ⟨rfl, h2⟩ := RL.bytes ht
        refine ⟨rfl, fun x hx => ?_⟩
        rcases List.mem_cons.1 hx with rfl | hx
        · rw [wrap_iff] at hw; simpa [lo, hi, IntKind.signed, IntKind.bits] using hw
        · exact h2 x hx
theorem bytes_R {m : List Int} (h : ∀ x ∈ m, 0 ≤ x ∧ x < 256) : RL r (m.map (.i .u8)) (m.map (.int .u8)) ∧ (m.map (V.i .u8)).all isOne = true := by
  induction m with
  | nil => exact ⟨.nil, rfl⟩
  | cons n m ih =>
    obtain ⟨a, b⟩ := ih fun x hx => h x (by simp [hx])
    refine ⟨.cons (.i _ _ ?_) a, by simp [isOne]⟩
    rw [wrap_iff]; simpa [lo, hi, IntKind.signed, IntKind.bits] using h n List.mem_cons_self
theorem toBA_cells {l : List Int} (h : Str l) : ((toBA l).data.map fun b => Value.int .u8 b.toNat).toList = l.map (.int .u8) := by
  rw [Array.toList_map]
  show ((l.map fun x => UInt8.ofNat x.toNat).map _) = _
  rw [List.map_map]
  refine List.map_congr_left fun x hx => ?_
  show Value.int .u8 _ = _
  rw [byte_of (h.1 x hx)]
theorem fold_push : ∀ (m : List Int) , m.foldl (fun r n => r.push (UInt8.ofNat n.toNat)) ByteArray.empty = toBA m := by
  have : ∀ (m : List Int) (s : ByteArray), (m.foldl (fun r n => r.push (UInt8.ofNat n.toNat)) s).data = s.data ++ (m.map fun x => UInt8.ofNat x.toNat).toArray := by
    intro m
    induction m with
    | nil => intro s; simp
    | cons n m ih => intro s; rw [List.foldl_cons, ih]; simp [ByteArray.push]
  intro m
  apply ByteArray.ext
  rw [this]
  show (#[] : Array UInt8) ++ _ = _
  simp [toBA]
theorem convV_ok (hr : HR E.G r h w.heap) {s d : TypeId} {x v : V} {X : Value} (hx : R r x X) {h' : Heap} (hv : convV E.P h s d x = some (v, h')) : ∃ Y w', (convert s d X).run E.P w = .ok Y w' ∧ Aft E r h w v h' Y w' := by
  unfold convV at hv
  split at hv
  · rename_i ds k k' n hs hd
    obtain ⟨rfl, rfl⟩ := by simpa using hv
    cases hx with
    | i _ _ hw =>
      refine ⟨.int k (k.wrap n), w, ?_, Aft.pure hr (.i _ _ (wrap_wrap _ _))⟩
      simp [convert, run_und E.P w hs, run_und E.P w hd, Conv.intToInt]
  · rename_i ds l hs hd
    obtain ⟨rfl, rfl⟩ := by simpa using hv
    cases hx with
    | s _ hl =>
      refine ⟨.string (toBA l), w, ?_, Aft.pure hr (.s _ hl)⟩
      simp [convert, run_und E.P w hs, run_und E.P w hd]
  · rename_i e l hs hd
    split at hv
    · rename_i he
      split at hv
      · rename_i h0
        obtain ⟨rfl, rfl⟩ := by simpa using hv
        cases hx with
        | s _ hl =>
          refine ⟨_, _, run_bytes_of_string w s d e _ hs hd he, ?_⟩
          have e0 : (toBA l).size = 0 := by rw [toBA_size, h0]
          rw [e0]
          exact Aft.grown (w' := w.drew.alloc (.cells (bytesRow (toBA l) (grownCap w 0 0 e)) e ((bytesRow (toBA l) (grownCap w 0 0 e)).size, (bytesRow (toBA l) (grownCap w 0 0 e)).size + 1))) (o := .cells (bytesRow (toBA l) (grownCap w 0 0 e)) e ((bytesRow (toBA l) (grownCap w 0 0 e)).size, (bytesRow (toBA l) (grownCap w 0 0 e)).size + 1)) hr rfl rfl rfl rfl (.e0 _ _)
      obtain ⟨rfl, rfl⟩ := by simpa using hv
      cases hx with
      | s _ hl =>
        refine ⟨_, _, run_bytes_of_string w s d e _ hs hd he, ?_⟩
        have hg := grownCap_ge w (toBA l).size 0 e
        have e0 := toBA_size l
        generalize hgc : grownCap w (toBA l).size 0 e = gc at hg ⊢
        rw [e0] at hg ⊢
        have hsz : (bytesRow (toBA l) gc).size = gc := by
          have : (toBA l).data.size = l.length := by simp [toBA]
          simp [bytesRow, this, e0]; omega
        obtain ⟨b1, b2⟩ := bytes_R (r := r) hl.1
        refine Aft.new (E := E) (r := r) (h := h) (w := w) (w' := w.drew.alloc (.cells (bytesRow (toBA l) gc) e ((bytesRow (toBA l) gc).size, (bytesRow (toBA l) gc).size + 1))) hr (c := bytesRow (toBA l) gc) (e := e) (fz := ((bytesRow (toBA l) gc).size, (bytesRow (toBA l) gc).size + 1)) rfl rfl rfl rfl (x := false) (cap := gc) (l := l.map (.i .u8)) ?_ (by simp) (by omega) (by simpa using hg) ?_ ?_
        · intro j u hj
          obtain ⟨y, h1, h2⟩ := b1.get? hj
          refine ⟨y, ?_, h2⟩
          rw [← toBA_cells hl] at h1
          have hlt := (List.getElem?_eq_some_iff.1 h1).1
          unfold bytesRow
          rw [Array.getElem?_append_left (by simpa using hlt)]
          simpa using h1
        · intro q hq
          rw [hsz]; simp only; omega
        · exact .sl _ 0 _ 1 _ ⟨w.heap.size, 0, gc⟩ (get_last hr _) (by simp) hg hl.2
    · cases hv
  · rename_i y e hs hd hno
    split at hv
    · rename_i he
      split at hv
      · rename_i n l hsl
        split at hv
        · rename_i m hm
          obtain ⟨rfl, rfl⟩ := by simpa using hv
          obtain ⟨A, c, rfl, hlen, xs, hR, hrun⟩ := sliceCells_ok (E := E) hr hx hsl
          obtain rfl := bytesV_some hm
          obtain ⟨rfl, hb⟩ := RL.bytes hR
          have hn : m.length = n := by simpa using hlen
          have hbound : Str m := by
            refine ⟨hb, ?_⟩
            have : n ≤ 281474976710656 := by
              cases hx with
              | sl _ _ _ _ _ _ _ _ _ hbb => exact hbb
              | s0 => omega
              | sn => omega
              | c => unfold sliceCells at hsl; split at hsl <;> simp_all
              | junk => simp [sliceCells] at hsl
              | e0 => unfold sliceCells at hsl; simp_all
            omega
          refine ⟨.string (toBA m), w, ?_, Aft.pure hr (.s _ hbound)⟩
          rw [run_convert_bytes_string w s d e A n c hs he hd]
          cases A with
          | none =>
            have : m = [] := by
              simp only [Builtin.firstCells, Sem.run_pure] at hrun
              simpa using hrun.symm
            subst this
            rfl
          | some a =>
            rw [run_bytesToString w a n c m (by simpa [Builtin.firstCells] using hrun)]
            rw [fold_push]
        · cases hv
      · cases hv
    · cases hv
  · cases hv
/-- what is appended: how many elements, which cells -/
theorem new_ok (hr : HR E.G r h w.heap) {ut : TypeDesc} {sz : Nat} {x : V} {X : Value} (hx : R r x X) {m : Nat} {new : List V} (hn : newV h sz ut x = some (m, new)) :
    (∀ k, ut ≠ .int k) ∧ (Builtin.lenOf X).run E.P w = .ok m w ∧ ∃ xs : List Value, RL r new xs ∧ (Builtin.firstCells sz m X).run E.P w = .ok xs.toArray w := by
  unfold newV at hn
  split at hn
  · obtain ⟨rfl, rfl⟩ := by simpa using hn
    cases hx with
    | s l hs =>
      obtain ⟨b1, b2⟩ := bytes_R (r := r) hs.1
      refine ⟨by simp, by simp [Builtin.lenOf, toBA_size], _, b1, ?_⟩
      simp only [Builtin.firstCells, Sem.run_pure]
      congr 1
      apply Array.toList_inj.1
      rw [← toBA_cells hs, extr, List.take_of_length_le (by simp), List.drop_zero]
  · obtain ⟨A, c, rfl, hlen, xs, hR, hrun⟩ := sliceCells_ok (E := E) hr hx hn
    exact ⟨by simp, by simp [Builtin.lenOf], xs, hR, hrun⟩
  · cases hn
theorem notInt {ut : TypeDesc} (hut : ∀ k, ut ≠ .int k) : (match ut with | .int _ => true | _ => false) = false := by cases ut <;> first | rfl | exact absurd rfl (hut _)
/-- 'append', taken apart: there is room, or there is none -/
theorem run_append_room' {t u ty e : TypeId} {ut : TypeDesc} (ht : E.P.underlying t = some (.slice e)) (hu : E.P.underlying u = some ut) (hut : ∀ k, ut ≠ .int k) {sz : Nat} (hs : (Go.sizeOf e).run E.P w = .ok sz w) {base : Option Addr} {n c m : Nat} {X : Value}
    (hm : (Builtin.lenOf X).run E.P w = .ok m w) {xs : List Value} (hx : (Builtin.firstCells sz m X).run E.P w = .ok xs.toArray w) (hroom : n + m ≤ c) :
    (Builtin.append_ #[t, u] ty #[.slice base n c, X]).run E.P w = match base with
      | none => .ok (.slice none (n + m) c) w
      | some a => ((storeCells (a.add (n * sz)) xs).run E.P w).andThen fun _ w' => .ok (.slice (some a) (n + m) c) w' := by
  have hz := notInt hut
  cases base <;> simp [Builtin.append_, run_und E.P w ht, run_und E.P w hu, hs, hz, hm, hroom, hx]
theorem run_append_grow' {t u ty e : TypeId} {ut : TypeDesc} (ht : E.P.underlying t = some (.slice e)) (hu : E.P.underlying u = some ut) (hut : ∀ k, ut ≠ .int k) {sz : Nat} (hs : ∀ w, (Go.sizeOf e).run E.P w = .ok sz w) {base : Option Addr} {n c m : Nat} {X : Value}
    (hm : (Builtin.lenOf X).run E.P w = .ok m w) {xs os : List Value} (hx : (Builtin.firstCells sz m X).run E.P w.drew = .ok xs.toArray w.drew) (ho : (Builtin.firstCells sz n (.slice base n c)).run E.P w.drew = .ok os.toArray w.drew)
    {i : TypeInfo} {z : Value} (hi : E.P.info? e = some i) (hz0 : i.zero = some z) (hb : (n + m) * i.bytes ≤ 1099511627776) (hb0 : 0 < i.bytes) (hroom : ¬ n + m ≤ c) :
    (Builtin.append_ #[t, u] ty #[.slice base n c, X]).run E.P w = .ok (.slice (some ⟨w.heap.size, 0, none⟩) (n + m) (grownCap w (n + m) c e))
      (w.drew.alloc (.cells (os.toArray ++ xs.toArray ++ Builtin.zeroCells z.cells (grownCap w (n + m) c e - (n + m))) e)) := by
  have hz := notInt hut
  have hfit := growslice_fits (need := n + m) (old := c) (bytes := i.bytes) (by omega) (by omega)
  have hty : ∀ w : World, (typeInfo e).run E.P w = .ok i w := fun w => by simp [typeInfo, hi]
  have hzv : ∀ w : World, (zeroValue e).run E.P w = .ok z w := fun w => by simp [zeroValue, typeInfo, hi, hz0]
  simp only [Builtin.append_, Sem.run_bind, List.getElem?_toArray, List.getElem?_cons_zero, List.getElem?_cons_succ, run_und E.P w ht, run_und E.P w hu, Result.andThen_ok, hs, Sem.run_pure, hz, hm, Bool.false_eq_true, if_false, if_neg hroom, hty]
  have c1 : ¬ (((n + m : Nat) : Int) > IntKind.i64.max ∧ (False ∨ i.bytes = 0)) := by rintro ⟨_, h | h⟩ <;> first | exact h | omega
  have c2 : ¬ (Builtin.nextslicecap (n + m) c * i.bytes > 2 ^ 48) := by omega
  simp only [Bool.not_false, if_true, if_neg c1, Sem.run_bind, hty, Result.andThen_ok]
  rw [if_neg (by omega)]
  have hg : (choose (.appendCap (n + m) c e)).run E.P w = .ok (grownCap w (n + m) c e) w.drew := by simp [Question.forced, grownCap]
  simp only [Sem.run_bind, hg, Result.andThen_ok, run_askRoom, hty, ho, hx, hzv, newRow, run_newObj, Sem.run_pure]
  rfl
/-- cells of one's own, some new ones behind -/
theorem in_room {c : Array Value} {old : List V} {new : List V} {xs : List Value} {o sz n : Nat} {c' : Array Value} (h1 : ∀ (j : Nat) v, old[j]? = some v → ∃ x, c[o + j]? = some x ∧ R r v x) (h2 : RL r new xs) (hl : old.length = n * sz)
    (h3 : ∀ q, (q < o + n * sz ∨ o + n * sz + xs.length ≤ q) → c'[q]? = c[q]?) (h4 : ∀ q, q < xs.length → c'[o + n * sz + q]? = xs[q]?) : ∀ (j : Nat) v, (old ++ new)[j]? = some v → ∃ x, c'[o + j]? = some x ∧ R r v x := by
  intro j v hj
  rw [List.getElem?_append] at hj
  split at hj
  · obtain ⟨x, a, b⟩ := h1 j v hj
    exact ⟨x, by rw [h3 _ (by omega), a], b⟩
  · obtain ⟨x, a, b⟩ := h2.get? hj
    have hlt := (List.getElem?_eq_some_iff.1 a).1
    refine ⟨x, ?_, b⟩
    have := h4 (j - old.length) hlt
    rw [a] at this
    rw [← this]; congr 1; omega
theorem Keep.snoc {r0 : List (Option Loc)} {h0 : Heap} {w0 w' : World} {r' : List (Option Loc)} {h' : Heap} (k : Keep r0 h0 w0 r' h' w') (hl : r'.length = h'.length) {b : Blk} {y : Option Loc} (ho : Own b → ∀ L, y = some L → L.block < w0.heap.size → ∃ (j : Nat) (b' : Blk) (L' : Loc), h0[j]? = some b' ∧ Own b' ∧ r0[j]? = some (some L') ∧ L'.block = L.block) : Keep r0 h0 w0 (r' ++ [y]) (h' ++ [b]) w' := by
  refine ⟨k.pre.trans (List.prefix_append _ _), k.size, k.os, k.tape, k.output, k.block, ?_⟩
  intro i b' L h1 h2 h3 h4
  rcases getElem?_snoc h1 with e1 | ⟨rfl, rfl⟩
  · have hi := (List.getElem?_eq_some_iff.1 e1).1
    rw [List.getElem?_append_left (by omega)] at h3
    exact k.own i b' L e1 h2 h3 h4
  · rw [← hl] at h3
    exact ho h2 L (by simpa using h3) h4
theorem Keep.kill {r0 : List (Option Loc)} {h0 : Heap} {w0 w' : World} {r' : List (Option Loc)} {h' : Heap} (k : Keep r0 h0 w0 r' h' w') (i : Nat) : Keep r0 h0 w0 r' (h'.set i dead) w' := by
  refine ⟨k.pre, k.size, k.os, k.tape, k.output, k.block, ?_⟩
  intro j b' L h1 h2 h3 h4
  rw [List.getElem?_set] at h1
  split at h1
  · split at h1
    · obtain rfl := Option.some.inj h1; exact absurd h2 own_dead
    · cases h1
  · exact k.own j b' L h1 h2 h3 h4
/-- a row that grew: new memory -/
theorem grown_ok (hr : HR E.G r h w.heap) {e : TypeId} {os xs : List Value} {old new : List V} (ho : RL r old os) (hx : RL r new xs) {n m c sz : Nat} (hlo : old.length = n * sz) (hln : new.length = m * sz) {i : TypeInfo} {z : Value} (hzs : z.cells.size = sz) (hb : n + m ≤ 281474976710656) {ho' : Heap} (hh : ho' = h ∨ ∃ b, ho' = h.set b dead) :
    Aft E r h w (.sl h.length 0 (n + m) sz) (ho' ++ [⟨2, false, old ++ new⟩]) (.slice (some ⟨w.heap.size, 0, none⟩) (n + m) (grownCap w (n + m) c e)) (w.drew.alloc (.cells (os.toArray ++ xs.toArray ++ Builtin.zeroCells z.cells (grownCap w (n + m) c e - (n + m))) e)) := by
  have hg := grownCap_ge w (n + m) c e
  generalize grownCap w (n + m) c e = gc at hg ⊢
  have hlen : ho'.length = h.length := by rcases hh with rfl | ⟨b, rfl⟩ <;> simp
  have hr' : HR E.G r ho' w.heap := by rcases hh with rfl | ⟨b, rfl⟩; exact hr; exact hr.kill b
  have l1 := ho.length
  have l2 := hx.length
  have hsz : (os.toArray ++ xs.toArray ++ Builtin.zeroCells z.cells (gc - (n + m))).size = gc * sz := by
    simp only [Array.size_append, List.size_toArray, size_zeroCells, hzs, l1, l2, hlo, hln]
    rw [← Nat.add_mul, ← Nat.add_mul]; congr 1; omega
  obtain ⟨a, b⟩ := hr'.new (w' := w.drew.alloc (.cells (os.toArray ++ xs.toArray ++ Builtin.zeroCells z.cells (gc - (n + m))) e)) (e := e) (fz := (0, 0)) (c := os.toArray ++ xs.toArray ++ Builtin.zeroCells z.cells (gc - (n + m))) rfl rfl rfl rfl (b := ⟨2, false, old ++ new⟩) (cap := gc * sz) rfl
    (fun j v hj => by
      obtain ⟨x, h1, h2⟩ := (ho.append hx).get? hj
      refine ⟨x, ?_, h2⟩
      have hlt := (List.getElem?_eq_some_iff.1 h1).1
      rw [Array.getElem?_append_left (by simpa using hlt)]
      simpa using h1) (by simp) (by omega) (by simp only [List.length_append, hlo, hln, ← Nat.add_mul]; exact Nat.mul_le_mul_right _ hg) (by simp)
  refine ⟨_, ?_, a, ?_⟩
  · refine .sl _ 0 _ sz gc ⟨w.heap.size, 0, gc * sz⟩ ?_ (by simp) hg hb
    rw [← hr.len]; simp
  · have k0 : Keep r h w r ho' w := by
      rcases hh with rfl | ⟨q, rfl⟩
      · exact Keep.refl _ _ _
      · exact (Keep.refl _ _ _).kill q
    exact k0.trans b
theorem appendV_ok (hr : HR E.G r h w.heap) {ts : List TypeId} {ty : TypeId} {s x v : V} {S X : Value} (hs : R r s S) (hx : R r x X) {h' : Heap} (hv : appendV E.P h ts s x = some (v, h')) : ∃ Y w', (Builtin.append_ ts.toArray ty #[S, X]).run E.P w = .ok Y w' ∧ Aft E r h w v h' Y w' := by
  unfold appendV at hv
  split at hv
  case h_2 => cases hv
  rename_i t u
  split at hv
  case h_2 => cases hv
  rename_i e ut ht hu
  split at hv
  · cases hv
  rename_i m new hn
  split at hv
  case isFalse => cases hv
  rename_i hq
  obtain ⟨q1, q2, q3, q4, q5⟩ := hq
  have hsz : ∀ w, (Go.sizeOf e).run E.P w = .ok (E.P.cellsOf e) w := fun w => run_size0 (by omega)
  obtain ⟨z, hz, hzl⟩ := Option.map_eq_some_iff.1 q3
  obtain ⟨i, Z, hi, hz0, _, _, _, hzs⟩ := zeroT_ok (w := w) (r := r) hz
  have hib : i.bytes = E.P.bytesOf e := by simp [Program.bytesOf, hi]
  have hrd : HR E.G r h w.drew.heap := hr
  obtain ⟨n1, n2, xs, n3, n4⟩ := new_ok (E := E) hr hx hn
  obtain ⟨_, _, xs', n3', n4'⟩ := new_ok (E := E) (w := w.drew) hrd hx hn
  have hlx := n3.length
  have small : ∀ {k : Nat}, k * E.P.bytesOf e ≤ 1099511627776 → k ≤ 281474976710656 := fun {k} hk => by
    have : k * 1 ≤ k * E.P.bytesOf e := Nat.mul_le_mul_left _ q2
    omega
  split at hv
  · -- nil
    split at hv
    case isFalse => cases hv
    rename_i hb
    obtain ⟨rfl, rfl⟩ := by simpa using hv
    cases hs with
    | c =>
      by_cases hm : m = 0
      · subst hm
        have hnew : new = [] := List.eq_nil_of_length_eq_zero (by rw [q4]; simp)
        refine ⟨_, _, run_append_room' (E := E) ht hu n1 (hsz w) n2 n4 (Nat.le_refl _), ?_⟩
        refine ⟨r ++ [none], .sn _ _ (get_last hr _), hr.add (.inl hnew) (by simp) (by simp) (by simp), ?_⟩
        exact (Keep.refl r h w).snoc hr.len (by simp)
      · refine ⟨_, _, run_append_grow' (E := E) ht hu n1 hsz n2 n4' (os := []) (by simp [Builtin.firstCells]) hi hz0 (by rw [hib]; simpa using hb) (by omega) (by omega), ?_⟩
        have := grown_ok (E := E) hr (e := e) (os := []) (old := []) .nil n3' (n := 0) (m := m) (c := 0) (sz := E.P.cellsOf e) (by simp) q4 (i := i) (z := Z) (by omega) (by rw [Nat.zero_add]; exact small hb) (.inl rfl)
        simpa using this
  · rename_i b o n z'
    split at hv
    case isFalse => cases hv
    rename_i hb
    obtain ⟨rfl, hb⟩ := hb
    split at hv
    · cases hv
    rename_i st ex c hbk
    have hbk' := hget_some hbk (by simp)
    split at hv
    · cases hv
    rename_i old hold
    obtain ⟨l1, l2, l3, l4⟩ := ldN_some hold
    have hsl : sliceCells h (E.P.cellsOf e) (.sl b o n (E.P.cellsOf e)) = some (n, old) := by simp [sliceCells, hbk, hold]
    obtain ⟨A, cc, rfl, _, os, o1, o2⟩ := sliceCells_ok (E := E) (w := w.drew) hrd hs hsl
    have grow : ¬ n + m ≤ cc → ∀ {ho' : Heap}, (ho' = h ∨ ∃ b, ho' = h.set b dead) → ∃ Y w', (Builtin.append_ #[t, u] ty #[.slice A n cc, X]).run E.P w = .ok Y w' ∧ Aft E r h w (.sl h.length 0 (n + m) (E.P.cellsOf e)) (ho' ++ [⟨2, false, old ++ new⟩]) Y w' := fun hng ho' hh =>
      ⟨_, _, run_append_grow' (E := E) ht hu n1 hsz n2 n4' o2 hi hz0 (by rw [hib]; exact hb) (by omega) hng,
        grown_ok (E := E) hr o1 n3' l3 q4 (i := i) (by omega) (small hb) hh⟩
    split at hv
    · -- one's own
      rename_i hst
      subst hst
      obtain ⟨rfl, rfl⟩ := by simpa using hv
      by_cases hroom : n + m ≤ cc
      case neg => exact grow hroom (.inr ⟨b, rfl⟩)
      have zero : cc = 0 → old ++ new = [] ∧ n = 0 ∧ m = 0 := fun h0 => by
        have hn0 : n = 0 := by omega
        have hm0 : m = 0 := by omega
        refine ⟨?_, hn0, hm0⟩
        rw [List.eq_nil_of_length_eq_zero (l := old) (by rw [l3, hn0]; simp), List.eq_nil_of_length_eq_zero (l := new) (by rw [q4, hm0]; simp)]; rfl
      cases hs with
      | sl _ _ _ _ _ L hL hc hn' hbb =>
        rcases hr.blk b _ _ hbk' hL with h0 | ⟨C, el, fz, d1, d2, d3, d4⟩
        · simp at h0
        obtain ⟨e1, e2, e3⟩ := d4 rfl
        simp only at d2 d3 e2
        have hmul : (n + m) * E.P.cellsOf e ≤ cc * E.P.cellsOf e := Nat.mul_le_mul_right _ hroom
        rw [Nat.add_mul] at hmul
        have hone := (cells_ok (r := r) (v := .agg new) (x := .agg xs.toArray) (.agg _ _ n3) q5).2
        simp only [Value.cells] at hone
        obtain ⟨C', w', f1, f2, f3, f4, f5, f6, f7, f8, f9, f10⟩ := run_storeCells_fz E.P L.block (L.off + o + n * E.P.cellsOf e) el fz xs 0 C w d1 (by omega) (fun q a1 a2 => e3 q (by omega) (by omega)) (by simpa using hone)
        obtain ⟨g1, g2, g3, g4⟩ := hr.inplace hbk' (.inl rfl) hL f6 f7 f8 f9 f10
        have hrun := run_append_room' (E := E) (w := w) (ty := ty) (base := some ⟨L.block, L.off + o, none⟩) ht hu n1 (hsz w) n2 n4 hroom
        simp only [add_none, f1, Result.andThen_ok] at hrun
        refine ⟨_, w', hrun, r ++ [some ⟨L.block, L.off + o, L.cap - o⟩], ?_, ?_, ?_⟩
        · have hl0 : (r ++ [some (⟨L.block, L.off + o, L.cap - o⟩ : Loc)])[h.length]? = some (some ⟨L.block, L.off + o, L.cap - o⟩) := get_last hr _
          have := R.sl (r := r ++ [some ⟨L.block, L.off + o, L.cap - o⟩]) h.length 0 (n + m) (E.P.cellsOf e) cc _ hl0 (by simp only; omega) hroom (small hb)
          simpa using this
        · have hnewok := in_room (r := r) (c := C) (old := old) (new := new) (xs := xs) (o := L.off + o) (sz := E.P.cellsOf e) (n := n) (c' := C') (fun j v hj => by
            have := d2 _ v (l4 j v hj)
            rwa [← Nat.add_assoc] at this) n3 l3 (fun q hq => f4 q (by omega)) (fun q hq => by have := f5 q hq; simpa using this)
          refine g1.add (b := ⟨2, false, old ++ new⟩) (.inr ⟨C', el, fz, f2, hnewok, by simp, fun _ => ⟨by simp only; omega, ?_, fun q a1 a2 => e3 q (by simp only at a1; omega) (by simp only at a2; omega)⟩⟩) (by simp) ?_ ?_
          · simp only [List.length_append, l3, q4]; omega
          · intro j b' L1 L2 hL1 h1 h2 h3
            obtain rfl := Option.some.inj hL1
            have hj : j ≠ b := fun e => by subst e; rw [List.getElem?_set_self (List.getElem?_eq_some_iff.1 hbk').1] at h1; obtain rfl := Option.some.inj h1; exact live_dead h2
            exact g3 j b' L2 hj (by rwa [List.getElem?_set_ne (Ne.symm hj)] at h1) h2 h3
          · intro g L1 hg hL1
            obtain rfl := Option.some.inj hL1
            exact g4 g hg
        · refine g2.snoc (by simp [hr.len]) fun _ L1 hL1 _ => ?_
          obtain rfl := Option.some.inj hL1
          exact ⟨b, _, L, hbk', .inl rfl, hL, rfl⟩
      | s0 _ _ _ a y hy =>
        obtain ⟨hnil, _, rfl⟩ := zero rfl
        have hxs : xs = [] := List.eq_nil_of_length_eq_zero (by rw [hlx, q4]; simp)
        subst hxs
        have hrun := run_append_room' (E := E) (w := w) (ty := ty) (base := some a) ht hu n1 (hsz w) n2 n4 hroom
        simp only [storeCells, Sem.run_pure, Result.andThen_ok] at hrun
        refine ⟨_, w, hrun, r ++ [none], .s0 _ _ _ _ none (get_last hr _), (hr.kill b).add (.inl hnil) (by simp) (by simp) (by simp), ?_⟩
        exact ((Keep.refl r h w).kill b).snoc (by simp [hr.len]) (by simp)
      | sn _ _ hy =>
        obtain ⟨hnil, _, rfl⟩ := zero rfl
        have hrun := run_append_room' (E := E) (w := w) (ty := ty) (base := none) ht hu n1 (hsz w) n2 n4 hroom
        refine ⟨_, w, hrun, r ++ [none], .sn _ _ (get_last hr _), (hr.kill b).add (.inl hnil) (by simp) (by simp) (by simp), ?_⟩
        exact ((Keep.refl r h w).kill b).snoc (by simp [hr.len]) (by simp)
    · split at hv
      · rename_i hex
        obtain ⟨rfl, rfl⟩ := by simpa using hv
        refine grow ?_ (.inl rfl)
        intro hroom
        have hmul : (n + m) * E.P.cellsOf e ≤ cc * E.P.cellsOf e := Nat.mul_le_mul_right _ hroom
        cases hs with
        | sl _ _ _ _ _ L hL hc hn' hbb =>
          rcases hr.blk b _ _ hbk' hL with h0 | ⟨C, el, fz, d1, d2, d3, d4⟩
          · simp at h0
          have := d3 hex.1
          simp only at this
          omega
        | s0 _ _ _ a y hy => rw [Nat.zero_mul] at hmul; omega
        | sn _ _ hy => rw [Nat.zero_mul] at hmul; omega
      · cases hv
  · cases hv
end
end GoD
