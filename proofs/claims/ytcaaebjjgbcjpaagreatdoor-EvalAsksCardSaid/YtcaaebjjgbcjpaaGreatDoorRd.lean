/- How an argument that came in is read, kind by kind: from the row's reading of data to the print's own words. -/
import Derived.Test.YtcaaebjjgbcjpaaGreatDoorV0
import Derived.Test.YtcaaebjjgbcjpaaGreatDoorRows
import Derived.WalkKit
import Derived.ProofKit
import Derived.OpenShut
import Derived.ShutString
import Derived.ChangeOld
import Derived.Below
import Derived.SizedLaws
import Derived.Deep.Slices
namespace Go.Proofs.YtcaaebjjgbcjpaaGreatDoor.Rd
open Go.RowKit Go.ChangeShapes Go.WideShapes Go.Deep Go.Proofs.YtcaaebjjgbcjpaaGreatDoorW.PrintWords Go.Proofs.YtcaaebjjgbcjpaaGreatDoorW.PrintLast
set_option linter.unusedVariables false
section
variable {H : Type} {enc : TypeId × Value → H} {P : Program} {W : World}
/-- What is read at type t is read as kind d has it; 'ok': what the datum says. -/
def RdK {α : Type} (enc : TypeId × Value → H) (P : Program) (W : World) (d : Kd α) (ok : α → DataW H → Prop) (t : TypeId) : Prop :=
  ∀ (fuel : Nat) (cs : List Value) (x : DataW H × List MemPlace), DataW.trod enc P W 0 (fun _ => true) true fuel t cs = some x → ∃ a, d.K W a cs ∧ ok a x.1
def okI (k : IntKind) (a : Int) (d : DataW H) : Prop := d = .lit (.int k a) ∧ (Lit.int k a).wf = true
def okB (a : Bool) (d : DataW H) : Prop := d = .lit (.bool a)
def okT (s : ByteArray) (d : DataW H) : Prop := d = .lit (.string s.data.toList) ∧ s.size ≤ maxLen
def okS {α : Type} (ok : α → DataW H → Prop) (xs : List α) (d : DataW H) : Prop :=
  (d = .nil ∧ xs = []) ∨ ∃ ds sp, d = .slice ds sp ∧ ds.length = xs.length ∧ ∀ (j : Nat) (x : α), xs[j]? = some x → ∃ e, ds[j]? = some e ∧ ok x e
theorem rd_int {t : TypeId} (k : IntKind) (ht : P.underlying t = some (.int k)) : RdK enc P W (Kd.int k) (okI k) t := by
  intro fuel cs x h
  obtain ⟨n, rfl, rfl, hw⟩ := DataW.trod_int ht h
  exact ⟨n, rfl, rfl, hw⟩
theorem rd_string {t : TypeId} (ht : P.underlying t = some .string) : RdK enc P W Kd.string okT t := by
  intro fuel cs x h
  obtain ⟨s, rfl, rfl, hs⟩ := DataW.trod_string ht h
  exact ⟨s, rfl, rfl, hs⟩
theorem rd_slice {α : Type} [Inhabited α] {d : Kd α} {ok : α → DataW H → Prop} {t e : TypeId} (ht : P.underlying t = some (.slice e)) (hc : P.cellsOf e = d.sz) (r : RdK enc P W d ok e) : RdK enc P W (Kd.slice e d) (okS ok) t := by
  intro fuel cs x h
  rcases open_slice ht h with ⟨rfl, rfl⟩ | ⟨a, len, cap, m, n, D, Pl, rfl, hb, hl, hm, hmm, rfl, hx⟩
  · exact ⟨[], ⟨none, 0, rfl, Nat.le_refl _, Kd.C_nil d W⟩, .inl ⟨rfl, rfl⟩⟩
  · have hmm' : m = cap := by simpa using hmm
    obtain ⟨f, hf⟩ := choose_lt (α := α) (n := len) (p := fun i y => ∃ cs', W.cells? 0 (a.add (i * P.cellsOf e)) (P.cellsOf e) = some cs' ∧ d.K W y cs' ∧ ok y (D i)) (fun i hi => by
      obtain ⟨cs', h1, h2⟩ := hx i (by omega)
      obtain ⟨y, hy, hk⟩ := r _ _ _ h2
      exact ⟨y, cs', h1, hy, hk⟩)
    have hlen : ((List.range len).map f).length = len := by simp
    refine ⟨(List.range len).map f, ⟨some a, cap, by rw [hlen], by rw [hlen]; exact hl, ?_⟩, .inr ⟨_, _, rfl, by simp, ?_⟩⟩
    · refine ⟨rfl, by rw [hlen]; simp only [maxLen] at hm; omega, fun _ => ⟨a, rfl, fun j p hj => ?_⟩⟩
      have hjl : j < len := by have := (List.getElem?_eq_some_iff.1 hj).1; omega
      have hp : f j = p := by simpa [hjl] using hj
      subst hp
      obtain ⟨cs', h1, hk, _⟩ := hf j hjl
      obtain ⟨_, hcl, hce⟩ := World.cells?_some h1
      refine ⟨cs', by rw [hcl, hc], hk, fun i u hu => ?_⟩
      have hil : i < P.cellsOf e := by have := (List.getElem?_eq_some_iff.1 hu).1; omega
      have h3 := hce i hil
      rw [hu, Go.Deep.add_add] at h3
      rw [← hc]
      exact h3
    · intro j y hj
      have hjl : j < len := by have := (List.getElem?_eq_some_iff.1 hj).1; omega
      have hp : f j = y := by simpa [hjl] using hj
      subst hp
      obtain ⟨_, _, _, hk⟩ := hf j hjl
      exact ⟨D j, by simp [hjl], hk⟩
/-- A slice that came in: its form, what it reads as, what its datum says. -/
theorem open_rd {α : Type} {d : Kd α} {ok : α → DataW H → Prop} {t e : TypeId} {v : Value} {x : DataW H} {ps : List MemPlace} (r : RdK enc P W (Kd.slice e d) (okS ok) t) (h : DataW.Trod enc P W 0 (fun _ => true) true t v x ps) (hv : ∃ a n c, v = .slice a n c) :
    ∃ A c xs, v = .slice A xs.length c ∧ xs.length ≤ c ∧ d.C W A xs.length xs ∧ okS ok xs x := by
  obtain ⟨fuel, hf⟩ := h
  obtain ⟨xs, ⟨A, c, hcs, hl, hC⟩, ho⟩ := r _ _ _ hf
  obtain ⟨a, n, c', rfl⟩ := hv
  simp [Value.cells] at hcs
  obtain ⟨rfl, rfl, rfl⟩ := hcs
  exact ⟨_, _, xs, rfl, hl, hC, ho⟩
/-- What came in may be shared: it is told by the blocks that are there. -/
theorem shared {α : Type} {d : Kd α} {e : Nat} {A : Option Addr} {c : Nat} {xs : List α} (hd : Kd.Heap d) (h : d.C W A xs.length xs) (hc : xs.length ≤ c) : Kd.V d e W W.heap.size (fun k => (fun k => k < W.heap.size) k) (.slice A xs.length c) xs :=
  Kd.V_mk hc (fun W' hW => hd.C (fun k hk => hW k hk hk) h)
end
section
variable {H : Type}
theorem bulk_one (d : DataW H) : 1 ≤ Rows.uptoBulk d := by
  cases d with
  | lit l => cases l <;> simp [Rows.uptoBulk]
  | nil => simp [Rows.uptoBulk]
  | ptr d => simp [Rows.uptoBulk]
  | slice elems spare => simp [Rows.uptoBulk]
  | agg parts => simp [Rows.uptoBulk]
  | iface t d => simp [Rows.uptoBulk]
  | map entries => simp [Rows.uptoBulk]
  | held h => simp [Rows.uptoBulk]
/-- The bulk of a list, by what each of its members weighs at least. -/
theorem bulk_list {α : Type} {ok : α → DataW H → Prop} (wt : α → Nat) (hw : ∀ x d, ok x d → wt x ≤ Rows.uptoBulk d) : ∀ (xs : List α) (ds : List (DataW H)), ds.length = xs.length → (∀ (j : Nat) (x : α), xs[j]? = some x → ∃ e, ds[j]? = some e ∧ ok x e) → (xs.map wt).sum ≤ Rows.uptoBulkAll ds
  | [], ds, _, _ => by simp
  | x :: xs, [], h, _ => by simp at h
  | x :: xs, d :: ds, h, hk => by
    have h0 := hk 0 x rfl
    obtain ⟨e, he, ho⟩ := h0
    have hed : d = e := by simpa using he
    subst hed
    have h1 := hw x d ho
    have h2 := bulk_list wt hw xs ds (by simpa using h) (fun j y hj => hk (j + 1) y (by simpa using hj))
    simp only [List.map_cons, List.sum_cons, Rows.uptoBulkAll]
    omega
theorem bulk_slice {α : Type} {ok : α → DataW H → Prop} (wt : α → Nat) (hw : ∀ x d, ok x d → wt x ≤ Rows.uptoBulk d) {xs : List α} {d : DataW H} (h : okS ok xs d) : (xs.map wt).sum + 1 ≤ Rows.uptoBulk d := by
  rcases h with ⟨rfl, rfl⟩ | ⟨ds, sp, rfl, hl, hk⟩
  · simp [Rows.uptoBulk]
  · have := bulk_list wt hw xs ds hl hk
    simp only [Rows.uptoBulk]
    omega
theorem sum_one {α : Type} (xs : List α) : (xs.map fun _ => 1).sum = xs.length := by
  induction xs with
  | nil => rfl
  | cons x xs ih => simp only [List.map_cons, List.sum_cons, ih, List.length_cons]; omega
theorem bulk_length {α : Type} {ok : α → DataW H → Prop} {xs : List α} {d : DataW H} (h : okS ok xs d) : xs.length + 1 ≤ Rows.uptoBulk d := by
  have := bulk_slice (fun _ => 1) (fun x d _ => bulk_one d) h
  rwa [sum_one] at this
theorem bulk_text {s : ByteArray} {d : DataW H} (h : okT s d) : s.size + 1 ≤ Rows.uptoBulk d := by
  obtain ⟨rfl, _⟩ := h
  simp only [Rows.uptoBulk, Array.length_toList]
  exact Nat.le_refl _
theorem wf_of {k : IntKind} {xs : List Int} {d : DataW H} (h : okS (okI k) xs d) : ∀ x ∈ xs, (Lit.int k x).wf = true := by
  rcases h with ⟨rfl, rfl⟩ | ⟨ds, sp, rfl, hl, hk⟩
  · intro x hx; cases hx
  · intro x hx
    obtain ⟨j, hj⟩ := List.getElem?_of_mem hx
    obtain ⟨e, _, ho⟩ := hk j x hj
    exact ho.2
theorem each_of {α : Type} {ok : α → DataW H → Prop} {xs : List α} {d : DataW H} (h : okS ok xs d) : ∀ x ∈ xs, ∃ e, ok x e := by
  rcases h with ⟨rfl, rfl⟩ | ⟨ds, sp, rfl, hl, hk⟩
  · intro x hx; cases hx
  · intro x hx
    obtain ⟨j, hj⟩ := List.getElem?_of_mem hx
    obtain ⟨e, _, ho⟩ := hk j x hj
    exact ⟨e, ho⟩
end
section
variable {H : Type}
theorem weights_all {P : Program} {e : TypeId} : ∀ {ds : List (DataW H)} {j : Nat} {d : DataW H}, ds[j]? = some d → ∀ n ∈ d.weights P e, n ∈ DataW.weightsAll P e ds
  | d0 :: ds, 0, d, hd, n, hn => by
    simp only [List.getElem?_cons_zero, Option.some.injEq] at hd
    subst hd
    simp only [DataW.weightsAll, List.mem_append]
    exact Or.inl hn
  | d0 :: ds, j + 1, d, hd, n, hn => by
    simp only [List.getElem?_cons_succ] at hd
    simp only [DataW.weightsAll, List.mem_append]
    exact Or.inr (weights_all hd n hn)
  | [], _, _, hd, _, _ => by simp at hd
/-- A row of texts: how many there are, how long each is. -/
theorem sized_texts {P : Program} {ts : List TypeId} {ds : List (DataW H)} (h : (DataW.weightsEach P ts ds).all (· ≤ reachBytes) = true) {j : Nat} {t e : TypeId} {d : DataW H} {xs : List ByteArray} (ht : ts[j]? = some t) (hd : ds[j]? = some d) (hu : P.underlying t = some (.slice e)) (he : P.bytesOf e = 16) (o : okS okT xs d) :
    xs.length * 16 ≤ 140737488351232 ∧ ∀ s ∈ xs, s.size ≤ 140737488351232 := by
  rcases o with ⟨rfl, rfl⟩ | ⟨es, sp, rfl, hl, hk⟩
  · exact ⟨by simp, fun s hs => by cases hs⟩
  · have h1 := sized_slice h ht hd hu
    rw [he, hl] at h1
    have hr : reachBytes = 140737488351232 := rfl
    refine ⟨by rw [hr, Nat.add_mul] at h1; omega, fun s hs => ?_⟩
    obtain ⟨i, hi⟩ := List.getElem?_of_mem hs
    obtain ⟨e', h2, h3, _⟩ := hk i s hi
    subst h3
    have := List.all_eq_true.1 h _ (DataW.weights_mem_each ht hd s.data.toList.length (by
      simp only [DataW.weights, hu]
      exact List.mem_cons_of_mem _ (List.mem_append.2 (.inl (weights_all h2 _ (by simp [DataW.weights]))))))
    rw [← hr]
    have h4 : s.data.toList.length ≤ reachBytes := by simpa using this
    rwa [Array.length_toList] at h4
end
end Go.Proofs.YtcaaebjjgbcjpaaGreatDoor.Rd
