-- chosen by slim.py, a program of this session's, out of the words that the kit's print laid for this claim; Lean checks it
import Derived.Test.YtfpjamnilcjnjaaGreatDoorOW
import Derived.Test.YtfpjamnilcjnjaaGreatDoorVP
import Derived.Test.YtfpjamnilcjnjaaGreatDoorHB
import Derived.Below
import Derived.Deep.Draws
import Derived.Deep.AppendLies
import Derived.Maps.AppendAt
import Derived.OwnWalk
import Derived.Laws.BytesArg
import Derived.Laws.MakeOwn
import Derived.Laws.OwnMore
import Derived.Deep.OwnRows
import Derived.Tactics
import Derived.Lib.ConvBytes
import Derived.Laws.Slices
import Derived.WalkKit
import Derived.KernelRfl
import Derived.RowKit3
import Derived.Deep.LoopGhost
import Derived.Deep.QuietTactic
import Derived.BigQuiet
import Derived.WideLaws
import Derived.Deep.DeepCutAuto
import Derived.Deep.CutBlock
import Derived.Deep.RegionHeld3
import Derived.Laws.Rows
import Derived.Lib.AppendStr
import Derived.ArgAppend
import Derived.Laws.IdiomCopy
import Derived.RowKit
import Derived.OrdersHeld
import Derived.Laws.BitsLemmas
import Derived.Test.YtfpjamnilcjnjaaGreatDoorOP
import Derived.Laws.StructEq
import Derived.SizedLaws
import Derived.ChangeSlices
namespace GoD
open Go Go.Proofs
set_option linter.unusedVariables false
set_option linter.unusedSimpArgs false
set_option maxHeartbeats 4000000
set_option maxRecDepth 100000
def Vis (l : List Int) : Prop := ∀ c ∈ l, 33 ≤ c ∧ c ≤ 126
theorem Vis.app {a b : List Int} (ha : Vis a) (hb : Vis b) : Vis (a ++ b) := fun c hc => (List.mem_append.1 hc).elim (ha c) (hb c)
theorem Vis.byt {a : List Int} (ha : Vis a) : Byt a := fun c hc => by have := ha c hc; omega
theorem trimL_vis {l : List Int} (h : Vis l) : trimL l = l := by
  cases l with
  | nil => rfl
  | cons c t => rw [trimL, if_neg (by have := h c (by simp); omega)]
theorem trimR_vis {l : List Int} (h : Vis l) : trimR l = l := by
  unfold trimR
  rw [trimL_vis fun c hc => h c (by simpa using hc), List.reverse_reverse]
theorem clean_vis {l : List Int} (h : Vis l) : cleanL l = l := by
  unfold cleanL
  rw [trimL_vis h, trimR_vis h, List.filter_eq_self]
  intro c hc
  have := h c hc
  have h1 : ¬ c = 9 := by omega
  have h2 : ¬ c = 10 := by omega
  have h3 : ¬ c = 13 := by omega
  simp [keepB, h1, h2, h3]
theorem utf8_vis {l : List Int} (h : Vis l) : utf8B l = true := by
  have := utf8_end 0 [] l (by simp) (fun c hc => by simp at hc) (fun c hc => by have := h c hc; omega)
  rw [List.nil_append] at this
  rw [this]; rfl
theorem sch_of {s : List Int} (h : (defaultL s).2 = true) : s = [104, 116, 116, 112] ∨ s = [119, 115] ∨ s = [104, 116, 116, 112, 115] ∨ s = [119, 115, 115] ∨ s = [102, 116, 112] := by
  unfold defaultL at h
  split at h
  · rename_i h1; rcases h1 with h1 | h1 <;> simp [h1]
  · split at h
    · rename_i h1; rcases h1 with h1 | h1 <;> simp [h1]
    · split at h
      · rename_i h1; simp [h1]
      · cases h
theorem scheme_at {s : List Int} (h : (defaultL s).2 = true) (t : List Int) : schemeN (s ++ 58 :: t) = s.length ∧ lowerL s = s ∧ Vis s ∧ s.length ≤ 5 ∧ s ≠ [] := by
  have hv : ∀ l : List Int, (l.all fun c => decide (33 ≤ c ∧ c ≤ 126)) = true → Vis l := fun l hl c hc => of_decide_eq_true (List.all_eq_true.1 hl c hc)
  rcases sch_of h with rfl | rfl | rfl | rfl | rfl
  · exact ⟨rfl, rfl, hv _ (by decide), by decide, by simp⟩
  · exact ⟨rfl, rfl, hv _ (by decide), by decide, by simp⟩
  · exact ⟨rfl, rfl, hv _ (by decide), by decide, by simp⟩
  · exact ⟨rfl, rfl, hv _ (by decide), by decide, by simp⟩
  · exact ⟨rfl, rfl, hv _ (by decide), by decide, by simp⟩
theorem skipL_ne {c : Int} {t : List Int} (h1 : c ≠ 47) (h2 : c ≠ 92) : skipL (c :: t) = c :: t := by rw [skipL, if_neg (by omega)]
theorem url1_at {s au rest : List Int} (hs : (defaultL s).2 = true) (hn : au ≠ []) (ha : ∀ c ∈ au, c ∉ ([47, 92, 63, 35] : List Int)) (hr : rest = [] ∨ ∃ c t, rest = c :: t ∧ c ∈ ([47, 92, 63, 35] : List Int)) :
    url1 (s ++ 58 :: 47 :: 47 :: (au ++ rest)) = match authW s (restL au) [] 0 with
    | (false, _, _) => none
    | (true, ho, po) => some (url3 s (au ++ rest) ho po au rest) := by
  obtain ⟨h1, h2, _, _, _⟩ := scheme_at hs (47 :: 47 :: (au ++ rest))
  have h3 : (s ++ 58 :: 47 :: 47 :: (au ++ rest)).take s.length = s := by simp
  have h4 : (s ++ 58 :: 47 :: 47 :: (au ++ rest)).drop (s.length + 1) = 47 :: 47 :: (au ++ rest) := by
    rw [show s ++ 58 :: 47 :: 47 :: (au ++ rest) = (s ++ [58]) ++ 47 :: 47 :: (au ++ rest) by simp, List.drop_append_of_le_length (by simp)]
    simp
  have h5 : skipL (47 :: 47 :: (au ++ rest)) = au ++ rest := by
    match au, hn, ha with
    | c :: t, _, ha =>
      have := ha c (by simp)
      simp only [List.mem_cons, not_or] at this
      rw [skipL, if_pos (.inl rfl), skipL, if_pos (.inl rfl), List.cons_append, skipL_ne this.1 this.2.1]
  have h6 : upL [47, 92, 63, 35] (au ++ rest) = au.length := by
    rw [upL_app ha]
    rcases hr with rfl | ⟨c, t, rfl, hc⟩
    · simp [upL]
    · rw [upL, if_pos hc]; simp
  unfold url1
  rw [h1, h3, h2, if_pos hs, h4, h5]
  unfold url2
  rw [h6, List.take_left, List.drop_left]
  rcases authW s (restL au) [] 0 with ⟨_ | _, ho, po⟩ <;> rfl
theorem lastG_none : ∀ {l : List Int} {a i : Int}, (64 : Int) ∉ l → lastG a i l = a
  | [], a, i, _ => rfl
  | c :: t, a, i, h => by
    rw [List.mem_cons, not_or] at h
    rw [lastG, if_neg fun e => h.1 e.symm, lastG_none h.2]
theorem lastG_at : ∀ {l r : List Int} {a i : Int}, (64 : Int) ∉ r → lastG a i (l ++ 64 :: r) = i + l.length
  | [], r, a, i, h => by rw [List.nil_append, lastG, if_pos rfl, lastG_none h]; simp
  | c :: t, r, a, i, h => by rw [List.cons_append, lastG, lastG_at h]; simp; omega
theorem atL_none {l : List Int} (h : (64 : Int) ∉ l) : atL l = -1 := lastG_none h
theorem atL_at {l r : List Int} (h : (64 : Int) ∉ r) : atL (l ++ 64 :: r) = l.length := by unfold atL; rw [lastG_at h]; omega
theorem restL_none {l : List Int} (h : (64 : Int) ∉ l) : restL l = l := by unfold restL; rw [atL_none h, if_neg (by omega)]
theorem restL_at {l r : List Int} (h : (64 : Int) ∉ r) : restL (l ++ 64 :: r) = r := by
  unfold restL
  rw [atL_at h, if_pos (by omega), show l ++ 64 :: r = (l ++ [64]) ++ r by simp, show ((l.length : Int)).toNat + 1 = (l ++ [64]).length by simp, List.drop_left]
theorem userL_none {l u : List Int} (h : (64 : Int) ∉ l) : userL l u = u := by unfold userL; rw [atL_none h, if_neg (by omega)]
theorem passL_none {l u : List Int} (h : (64 : Int) ∉ l) : passL l u = u := by unfold passL; rw [atL_none h, if_neg (by omega)]
theorem take_at (l r : List Int) : (l ++ 64 :: r).take ((l.length : Int)).toNat = l := by rw [Int.toNat_natCast, List.take_left]
theorem userL_at {l r u : List Int} (h : (64 : Int) ∉ r) : userL (l ++ 64 :: r) u = encL 4 (l.take (upL [58] l)) := by
  unfold userL
  rw [atL_at h, if_pos (by omega), take_at]
theorem passL_at {l r u : List Int} (h : (64 : Int) ∉ r) : passL (l ++ 64 :: r) u = if upL [58] l < l.length then encL 4 (l.drop (upL [58] l + 1)) else u := by
  unfold passL
  rw [atL_at h, if_pos (by omega), take_at]
theorem upL_all {m l : List Int} (h : ∀ c ∈ l, c ∉ m) : upL m l = l.length := by
  have := upL_app (b := []) h
  rw [List.append_nil, upL] at this
  omega
theorem upL_cut {m a b : List Int} {c : Int} (h : ∀ x ∈ a, x ∉ m) (hc : c ∈ m) : upL m (a ++ c :: b) = a.length := by
  rw [upL_app h, upL, if_pos hc]; omega
theorem upL_one {a b : List Int} {c : Int} (h : c ∉ a) : upL [c] (a ++ c :: b) = a.length := upL_cut (fun x hx e => h (by rw [List.mem_singleton] at e; rw [← e]; exact hx)) (by simp)
theorem upL_one0 {a : List Int} {c : Int} (h : c ∉ a) : upL [c] a = a.length := upL_all fun x hx e => h (by rw [List.mem_singleton] at e; rw [← e]; exact hx)
theorem hexD_in {v s : Int} (h0 : 0 ≤ v) (h1 : v < 16) (hs : s = 1 ∨ s = 2 ∨ s = 3 ∨ s = 4) : inB (hexD v) s = false := by
  have key : ∀ k : Fin 16, ∀ j : Fin 5, 1 ≤ j.val → inB (hexD (k.val : Int)) (j.val : Int) = false := by decide +kernel
  have := key ⟨v.toNat, by omega⟩
  rw [show ((v.toNat : Nat) : Int) = v by omega] at this
  rcases hs with rfl | rfl | rfl | rfl
  · exact this 1 (by decide)
  · exact this 2 (by decide)
  · exact this 3 (by decide)
  · exact this 4 (by decide)
theorem in37 {s : Int} (hs : s = 1 ∨ s = 2 ∨ s = 3 ∨ s = 4) : inB 37 s = false := by rcases hs with rfl | rfl | rfl | rfl <;> rfl
def Fre (s : Int) (l : List Int) : Prop := ∀ c ∈ l, inB c s = false
theorem encL_fre {s : Int} (hs : s = 1 ∨ s = 2 ∨ s = 3 ∨ s = 4) : ∀ {l : List Int}, Byt l → Fre s (encL s l)
  | [], _ => fun c hc => by simp [encL] at hc
  | d :: t, h => by
    have hd := h d (by simp)
    have ih := encL_fre hs (l := t) fun c hc => h c (by simp [hc])
    intro c hc
    rw [encL] at hc
    split at hc
    · simp only [List.mem_cons] at hc
      rcases hc with rfl | rfl | rfl | hc
      · exact in37 hs
      · exact hexD_in (by omega) (by omega) hs
      · exact hexD_in (by omega) (by omega) hs
      · exact ih c hc
    · rename_i hn
      rcases List.mem_cons.1 hc with rfl | hc
      · simpa using hn
      · exact ih c hc
theorem encL_id {s : Int} : ∀ {l : List Int}, Fre s l → encL s l = l
  | [], _ => rfl
  | d :: t, h => by
    rw [encL, if_neg (by rw [h d (by simp)]; simp), encL_id fun c hc => h c (by simp [hc])]
theorem Fre.vis {s : Int} (hs : s = 1 ∨ s = 2 ∨ s = 3 ∨ s = 4) {l : List Int} (h : Fre s l) : Vis l := fun c hc => by
  have := h c hc
  unfold inB at this
  rcases hs with rfl | rfl | rfl | rfl <;> simp [moreL] at this <;> omega
theorem Fre.not {s : Int} {l m : List Int} {c : Int} (h : Fre s l) (hm : moreL s = some m) (hc : c ∈ m) : c ∉ l := fun hl => by
  have := h c hl
  unfold inB at this
  rw [hm] at this
  simp [hc] at this
theorem forb_vis {l : List Int} (h : l.any forbB = false) : Vis l := fun c hc => by
  have := List.any_eq_false.1 h c hc
  unfold forbB at this
  simp at this
  omega
theorem forb_not {l : List Int} {c : Int} (h : l.any forbB = false) (hc : forbB c = true) : c ∉ l := fun hl => List.any_eq_false.1 h c hl hc
end GoD
set_option linter.unusedVariables false
set_option linter.unusedSimpArgs false
namespace Go.Proofs.YtfpjamnilcjnjaaGreatDoorW.PrintWords
open Go.RowKit
structure Drawn0 (w w' : World) : Prop where mk :: (out : ∃ n, w' = w.drewN n)
theorem Drawn0.refl (w : World) : Drawn0 w w := ⟨⟨0, rfl⟩⟩
theorem Drawn0.step {w w' : World} (h : Drawn0 w w') (n : Nat) : Drawn0 w (w'.drewN n) := by
  obtain ⟨m, rfl⟩ := h
  exact ⟨⟨m + n, World.drewN_drewN ..⟩⟩
theorem Drawn0.grown {w w' : World} (h : Drawn0 w w') : Grown w w' := by
  obtain ⟨n, rfl⟩ := h
  induction n with
  | zero => exact Grown.refl _
  | succ n ih => rw [← World.drew_drewN]; exact Grown.drew ih
theorem Drawn0.below {w w' : World} (h : Drawn0 w w') : Below w.heap.size w w' := by
  obtain ⟨n, rfl⟩ := h
  induction n with
  | zero => exact Below.refl _ _
  | succ n ih => rw [← World.drew_drewN]; exact ih.drew
def rd (xs : List Int) (i : Int) : Int := xs.getD i.toNat 0
theorem below_alloc {w W : World} (h : Below w.heap.size w W) (o : Obj) : Below w.heap.size w (W.alloc o) := h.alloc h.size o
theorem grown_of_below {w w1 : World} (h : Below w.heap.size w w1) (row : Option Nat) : w.grownBy w1 row := ⟨h.os, h.tape, h.output, h.size, fun i hi _ => h.block i hi⟩
theorem pw_cell_below {w w1 : World} (h : Below w.heap.size w w1) {a : Addr} {v : Value} (hc : w.cell? a = some v) : w1.cell? a = some v := (h.cell (World.block_lt_of_cell? w a hc)).trans hc
def ReadsInt (w : World) (k : IntKind) (A : Option Addr) (n : Nat) (xs : List Int) : Prop :=
  xs.length = n ∧ n ≤ 9223372036854775807 ∧ (0 < n → ∃ ad, A = some ad ∧ ∀ j, j < n → w.cell? (ad.add j) = some (.int k (xs.getD j 0)))
theorem ReadsInt.below {w w1 : World} {k : IntKind} {A : Option Addr} {n : Nat} {xs : List Int} (h : ReadsInt w k A n xs) (hb : Below w.heap.size w w1) : ReadsInt w1 k A n xs :=
  ⟨h.1, h.2.1, fun hn => by
    obtain ⟨ad, e, hc⟩ := h.2.2 hn
    exact ⟨ad, e, fun j hj => pw_cell_below hb (hc j hj)⟩⟩
theorem own_base {w : World} {base : Nat} {e : TypeId} {size n : Nat} {v : Value} {xs : List Value} (h : w.ownsRow base e size v n xs) (k : Nat) (hk : v.ownBlock = some k) : base ≤ k := by
  rcases h.2 with ⟨rfl, _⟩ | ⟨g, cap, cur, rfl, hb, _⟩
  · simp [Value.ownBlock] at hk
  · have : g = k := by simpa [Value.ownBlock] using hk
    omega
theorem own_lt {w : World} {base : Nat} {e : TypeId} {size n : Nat} {v : Value} {xs : List Value} (h : w.ownsRow base e size v n xs) (k : Nat) (hk : v.ownBlock = some k) : k < w.heap.size := by
  rcases h.2 with ⟨rfl, _⟩ | ⟨g, cap, cur, rfl, hb, hh, _⟩
  · simp [Value.ownBlock] at hk
  · have : g = k := by simpa [Value.ownBlock] using hk
    subst this
    exact (Array.getElem?_eq_some_iff.1 hh).1
theorem pw_own_below {w w1 : World} {base : Nat} {e : TypeId} {size n : Nat} {v : Value} {xs : List Value} (h : w.ownsRow base e size v n xs) (hb : Below w.heap.size w w1) : w1.ownsRow base e size v n xs :=
  h.kept (grown_of_below hb none) (by cases v.ownBlock <;> simp)
def bytesOf (s : ByteArray) : List Int := s.data.toList.map fun b => (b.toNat : Int)
def LeO {α : Type} (a b : Option α) : Prop := ∀ r, a = some r → b = some r
theorem LeO.refl {α : Type} (a : Option α) : LeO a a := fun _ h => h
theorem LeO.none {α : Type} (b : Option α) : LeO Option.none b := fun _ h => by cases h
theorem LeO.trans {α : Type} {a b c : Option α} (h : LeO a b) (k : LeO b c) : LeO a c := fun r hr => k r (h r hr)
theorem LeO.bind {α β : Type} {a a' : Option α} {f f' : α → Option β} (h : LeO a a') (k : ∀ x, LeO (f x) (f' x)) : LeO (a.bind f) (a'.bind f') := by
  intro r hr
  obtain ⟨x, hx, hf⟩ := Option.bind_eq_some_iff.1 hr
  exact Option.bind_eq_some_iff.2 ⟨x, h x hx, k x r hf⟩
theorem LeO.map {α β : Type} {a a' : Option α} (f : α → β) (h : LeO a a') : LeO (a.map f) (a'.map f) := by
  intro r hr
  obtain ⟨x, hx, hf⟩ := Option.map_eq_some_iff.1 hr
  exact Option.map_eq_some_iff.2 ⟨x, h x hx, hf⟩
theorem more_rounds {α : Type} {g : Nat → Option α} (h : ∀ k, LeO (g k) (g (k + 1))) (k : Nat) : ∀ j, LeO (g k) (g (k + j))
  | 0 => LeO.refl _
  | j + 1 => (more_rounds h k j).trans (h (k + j))
theorem at_rounds {α : Type} {g : Nat → Option α} (h : ∀ k, LeO (g k) (g (k + 1))) {k k' : Nat} (hk : k ≤ k') {r : α} (hr : g k = some r) : g k' = some r := by
  have := more_rounds h k (k' - k) r hr
  rwa [Nat.add_sub_cancel' hk] at this
def Reps {α : Type} (R : α → List Value → Prop) (size : Nat) (ps : List α) (cs : List Value) : Prop :=
  cs.length = ps.length * size ∧ ∀ j p, ps[j]? = some p → R p ((cs.drop (j * size)).take size)
theorem Reps.none {α : Type} (R : α → List Value → Prop) (size : Nat) : Reps R size [] [] := ⟨by simp, fun j p h => by simp at h⟩
theorem Reps.snoc {α : Type} {R : α → List Value → Prop} {size : Nat} {ps : List α} {cs c : List Value} {p : α} (h : Reps R size ps cs) (hp : R p c) (hc : c.length = size) : Reps R size (ps ++ [p]) (cs ++ c) := by
  refine ⟨by rw [List.length_append, h.1, hc, List.length_append, List.length_singleton, Nat.add_mul, Nat.one_mul], fun j q hq => ?_⟩
  rcases Nat.lt_or_ge j ps.length with hj | hj
  · rw [List.getElem?_append_left hj] at hq
    have h1 : j * size + size ≤ cs.length := by rw [h.1, ← Nat.succ_mul]; exact Nat.mul_le_mul_right _ hj
    have h2 := h.2 j q hq
    rw [List.drop_append_of_le_length (by omega), List.take_append_of_le_length (by rw [List.length_drop]; omega)]
    exact h2
  · have hj' : j = ps.length := by
      have := (List.getElem?_eq_some_iff.1 hq).1
      rw [List.length_append, List.length_singleton] at this
      omega
    subst hj'
    have hq' : p = q := by simpa using hq
    subst hq'
    rw [← h.1, List.drop_left, ← hc, List.take_length]
    exact hp
theorem Reps.imp_ {α : Type} {R R' : α → List Value → Prop} {size : Nat} {ps : List α} {cs : List Value} (h : Reps R size ps cs) (hR : ∀ p c, R p c → R' p c) : Reps R' size ps cs := ⟨h.1, fun j p hj => hR _ _ (h.2 j p hj)⟩
def ReadsRow {α : Type} (R : α → List Value → Prop) (size : Nat) (w : World) (A : Option Addr) (n : Nat) (ps : List α) : Prop :=
  ps.length = n ∧ n ≤ 9223372036854775807 ∧ (0 < n → ∃ ad, A = some ad ∧ ∀ j p, ps[j]? = some p → ∃ c, c.length = size ∧ R p c ∧ ∀ i u, c[i]? = some u → w.cell? (ad.add (j * size + i)) = some u)
theorem ReadsRow.imp_ {α : Type} {R R' : α → List Value → Prop} {size : Nat} {w w1 : World} {A : Option Addr} {n : Nat} {ps : List α} (h : ReadsRow R size w A n ps) (hb : Below w.heap.size w w1) (hR : ∀ p c, R p c → R' p c) : ReadsRow R' size w1 A n ps :=
  ⟨h.1, h.2.1, fun hn => by
    obtain ⟨ad, e, hc⟩ := h.2.2 hn
    refine ⟨ad, e, fun j p hj => ?_⟩
    obtain ⟨c, hs, hr, hcell⟩ := hc j p hj
    exact ⟨c, hs, hR _ _ hr, fun i u hu => pw_cell_below hb (hcell i u hu)⟩⟩
theorem own_reads_row {α : Type} {R : α → List Value → Prop} {w : World} {base n size : Nat} {e : TypeId} {v : Value} {ps : List α} {cs : List Value} (h : w.ownsRow base e size v n cs) (hR : Reps R size ps cs) (hn : ps.length = n) :
    ∃ A c, v = .slice A n c ∧ ReadsRow R size w A n ps := by
  rcases Nat.eq_zero_or_pos n with h0 | h0
  · rcases h.2 with ⟨rfl, rfl⟩ | ⟨g, cap, cur, rfl, _⟩
    · exact ⟨none, 0, rfl, hn, by omega, fun hp => absurd hp (by omega)⟩
    · exact ⟨_, cap, rfl, hn, by omega, fun hp => absurd hp (by omega)⟩
  · obtain ⟨g, cap, rfl, _, _⟩ := h.form h0
    have hm : n ≤ 9223372036854775807 := by
      rcases h.2 with ⟨_, h1⟩ | ⟨g', cap', cur, he, _, _, h1, h2, _⟩
      · omega
      · simp only [maxLen] at h2
        omega
    refine ⟨_, cap, rfl, hn, hm, fun _ => ⟨_, rfl, fun j p hj => ⟨(cs.drop (j * size)).take size, ?_, hR.2 j p hj, fun i u hu => ?_⟩⟩⟩
    · have hjl := (List.getElem?_eq_some_iff.1 hj).1
      have h1 : j * size + size ≤ cs.length := by rw [hR.1, ← Nat.succ_mul]; exact Nat.mul_le_mul_right _ hjl
      rw [List.length_take, List.length_drop]
      omega
    · refine h.cells (g := g) rfl _ u ?_
      rw [List.getElem?_take] at hu
      split at hu
      · rw [List.getElem?_drop] at hu
        exact hu
      · cases hu
section
variable {P : Program} {ops : Array Oper} {rest : List Oper} {o : Oper} {a : Act} {Q : Exit → Act → World → Prop}
theorem print_append_cells {w0 W : World} (base : Nat) (hgd : o.guard = none) (s x : Operand) (t e : TypeId) (z : Value) (size bytes : Nat)
    (ho : o.op = .call { callee := .builtin .append, args := #[s, x], argTypes := #[t, t] })
    (ht : P.underlying t = some (.slice e)) (hinfo : (P.info? e).map (fun i => (i.zero, i.size, i.bytes)) = some (some z, size, bytes)) (hz : z.cells.size = size) (hs0 : 0 < size) (hb0 : 0 < bytes)
    (v : Value) (n : Nat) (xs ys : List Value) (hs : a.eval s = v) (hx : a.eval x = .slice (some ⟨W.heap.size, 0, none⟩) 1 1) (hys : ys.length = size) (h1 : ∀ u ∈ ys, u.oneCell' = true)
    (HO : W.ownsRow base e size v n xs) (HB : Below base w0 W) (hbase : base ≤ W.heap.size) (hl : (n + 1) * bytes ≤ 140737488355328)
    (h : ∀ v1 w1, w1.ownsRow base e size v1 (n + 1) (xs ++ ys) → Below base w0 w1 → W.grownBy w1 v.ownBlock → (v1.ownBlock = v.ownBlock ∨ ∃ b, v1.ownBlock = some b ∧ W.heap.size ≤ b) → wpList P ops Q rest (a.put o.dst v1) w1) :
    wpList P ops Q (o :: rest) a (W.alloc (.cells ys.toArray e)) := by
  obtain ⟨i0, hi, hzz⟩ := Option.map_eq_some_iff.1 hinfo
  simp only [Prod.mk.injEq] at hzz
  obtain ⟨hz0, hz1, hz2⟩ := hzz
  have hlen : n + 1 ≤ 140737488355328 := Nat.le_trans (Nat.le_mul_of_pos_right _ hb0) hl
  refine wpList_append_own_at (W.alloc (.cells ys.toArray e)) hgd s x t ho base e i0 z size bytes ht hi hz0 hz1 hz2 hz hs0 v n xs hs (HO.alloc _) ⟨W.heap.size, 0, none⟩ 1 1 ys hx (by rw [hys]; simp)
    (by simpa using World.news_of_block (cs := ys.toArray) (t := e) (fr := (0, 0)) (heap_alloc_new W (.cells ys.toArray e))) h1 (by simp only [maxLen]; omega) hl (by simp; omega) ?_
  intro v1 w1 hown hg _ hat
  refine h v1 w1 hown ((HB.alloc hbase _).grown hg (by simp; omega) (own_base HO)) (World.grownBy.trans (World.grownBy_alloc W _ _) hg) ?_
  rcases hat with hat | hat
  · exact .inl hat
  · exact .inr ⟨_, hat, by simp⟩
end
theorem blk_lt {w : World} {g : Nat} {o : Obj} (h : w.heap[g]? = some o) : g < w.heap.size := (Array.getElem?_eq_some_iff.1 h).1
def KeepBut (w w' : World) (g : Nat) (row : Option Nat) : Prop := w.heap.size ≤ w'.heap.size ∧ ∀ i, i < w.heap.size → i ≠ g → some i ≠ row → w'.heap[i]? = w.heap[i]?
theorem KeepBut.refl (w : World) (g : Nat) (row : Option Nat) : KeepBut w w g row := ⟨Nat.le_refl _, fun _ _ _ _ => rfl⟩
theorem KeepBut.of_below {w w1 : World} (h : Below w.heap.size w w1) (g : Nat) (row : Option Nat) : KeepBut w w1 g row := ⟨h.size, fun i hi _ _ => h.block i hi⟩
theorem KeepBut.trans {w w1 w2 : World} {g : Nat} {row row1 : Option Nat} (h : KeepBut w w1 g row) (k : KeepBut w1 w2 g row1) (hr : row1 = row ∨ ∃ b, row1 = some b ∧ w.heap.size ≤ b) : KeepBut w w2 g row :=
  ⟨Nat.le_trans h.1 k.1, fun i hi hg hn => by
    refine (k.2 i (Nat.lt_of_lt_of_le hi h.1) hg ?_).trans (h.2 i hi hg hn)
    rcases hr with rfl | ⟨b, rfl, hb⟩
    · exact hn
    · intro e
      injection e with e
      omega⟩
theorem KeepBut.blk {w w1 : World} {g g' : Nat} {row : Option Nat} {o : Obj} (h : KeepBut w w1 g row) (hb : w.heap[g']? = some o) (hg : g' ≠ g) (hr : some g' ≠ row) : w1.heap[g']? = some o := (h.2 g' (blk_lt hb) hg hr).trans hb
theorem KeepBut.own {w w1 : World} {g : Nat} {row : Option Nat} {base : Nat} {e : TypeId} {size n : Nat} {v : Value} {xs : List Value} (h : KeepBut w w1 g row) (ho : w.ownsRow base e size v n xs) (hg : v.ownBlock ≠ some g) (hr : v.ownBlock = none ∨ v.ownBlock ≠ row) : w1.ownsRow base e size v n xs := by
  obtain ⟨h1, h2⟩ := ho
  refine ⟨h1, ?_⟩
  rcases h2 with h2 | ⟨b, cap, cur, rfl, hb, hh, r⟩
  · exact .inl h2
  · refine .inr ⟨b, cap, cur, rfl, hb, h.blk hh ?_ ?_, r⟩
    · intro e
      exact hg (by rw [← e]; rfl)
    · rcases hr with hr | hr
      · simp [Value.ownBlock] at hr
      · exact hr
def Ev {α : Type} (g : Nat → Option α) (r : α) : Prop := ∃ K, ∀ k, K ≤ k → g k = some r
theorem Ev.of {α : Type} {g : Nat → Option α} {r : α} (hg : ∀ k, LeO (g k) (g (k + 1))) {k : Nat} (h : g k = some r) : Ev g r := ⟨k, fun _ hk => at_rounds hg hk h⟩
theorem Ev.now {α : Type} (r : α) : Ev (fun _ => some r) r := ⟨0, fun _ _ => rfl⟩
theorem Ev.bind {α β : Type} {g : Nat → Option α} {f : Nat → α → Option β} {a : α} {r : β} (h : Ev g a) (k : Ev (fun n => f n a) r) : Ev (fun n => (g n).bind (f n)) r := by
  obtain ⟨K, h⟩ := h
  obtain ⟨K', k⟩ := k
  refine ⟨max K K', fun n hn => ?_⟩
  have h1 := h n (by omega)
  have h2 := k n (by omega)
  simp only [h1, Option.bind_some]
  exact h2
theorem Ev.step {α : Type} {g f : Nat → Option α} {r : α} (h : ∀ k, g (k + 1) = f k) (k : Ev f r) : Ev g r := by
  obtain ⟨K, k⟩ := k
  refine ⟨K + 1, fun n hn => ?_⟩
  obtain ⟨m, rfl⟩ : ∃ m, n = m + 1 := ⟨n - 1, by omega⟩
  rw [h]
  exact k m (by omega)
theorem Ev.congr {α : Type} {g f : Nat → Option α} {r : α} (h : ∀ k, g k = f k) (k : Ev f r) : Ev g r := by
  obtain ⟨K, k⟩ := k
  exact ⟨K, fun n hn => (h n).trans (k n hn)⟩
theorem own_weaken {w : World} {base base' : Nat} {e : TypeId} {size n : Nat} {v : Value} {xs : List Value} (h : w.ownsRow base e size v n xs) (hb : base' ≤ base) : w.ownsRow base' e size v n xs := by
  obtain ⟨h1, h2⟩ := h
  refine ⟨h1, ?_⟩
  rcases h2 with h2 | ⟨g, cap, cur, rfl, hg, r⟩
  · exact .inl h2
  · exact .inr ⟨g, cap, cur, rfl, Nat.le_trans hb hg, r⟩
section
variable {α : Type} {enc : α → Value} {d : α}
def ReadsOf (enc : α → Value) (d : α) (w : World) (A : Option Addr) (n : Nat) (xs : List α) : Prop :=
  xs.length = n ∧ n ≤ 9223372036854775807 ∧ (0 < n → ∃ ad, A = some ad ∧ ∀ j, j < n → w.cell? (ad.add j) = some (enc (xs.getD j d)))
theorem ReadsOf.below {w w1 : World} {A : Option Addr} {n : Nat} {xs : List α} (h : ReadsOf enc d w A n xs) (hb : Below w.heap.size w w1) : ReadsOf enc d w1 A n xs :=
  ⟨h.1, h.2.1, fun hn => by
    obtain ⟨ad, e, hc⟩ := h.2.2 hn
    exact ⟨ad, e, fun j hj => pw_cell_below hb (hc j hj)⟩⟩
end
theorem own_le {w : World} {base n m c size : Nat} {e : TypeId} {A : Option Addr} {xs : List Value} (h : w.ownsRow base e size (.slice A m c) n xs) : m ≤ c := by
  rcases h.2 with ⟨he, _⟩ | ⟨g, cap, cur, he, _, _, hnc, _⟩
  · injection he with _ h2 h3
    omega
  · injection he with _ h2 h3
    omega
def OwnRow {α : Type} (R : α → List Value → Prop) (e : TypeId) (size : Nat) (w : World) (base : Nat) (v : Value) (ps : List α) : Prop :=
  ∃ inner, w.ownsRow base e size v ps.length inner ∧ Reps R size ps inner
section
variable {α : Type} {R R' : α → List Value → Prop} {e : TypeId} {size : Nat} {w w1 : World} {base : Nat} {v : Value} {ps : List α}
theorem OwnRow.imp_ (h : OwnRow R e size w base v ps) (hR : ∀ p c, R p c → R' p c) : OwnRow R' e size w base v ps := by
  obtain ⟨inner, ho, hr⟩ := h
  exact ⟨inner, ho, hr.imp_ hR⟩
theorem OwnRow.below (h : OwnRow R e size w base v ps) (hb : Below w.heap.size w w1) : OwnRow R e size w1 base v ps := by
  obtain ⟨inner, ho, hr⟩ := h
  exact ⟨inner, pw_own_below ho hb, hr⟩
theorem OwnRow.reads (h : OwnRow R e size w base v ps) : ∃ A c, v = .slice A ps.length c ∧ ps.length ≤ c ∧ ReadsRow R size w A ps.length ps := by
  obtain ⟨inner, ho, hr⟩ := h
  obtain ⟨A, c, rfl, hrow⟩ := own_reads_row ho hr rfl
  exact ⟨A, c, rfl, own_le ho, hrow⟩
theorem OwnRow.lit (W : World) (base : Nat) {inner : List Value} (hr : Reps R size ps inner) (hb : base ≤ W.heap.size) (hm : ps.length ≤ 9223372036854775807) :
    OwnRow R e size (W.alloc (.cells inner.toArray e)) base (.slice (some ⟨W.heap.size, 0, none⟩) ps.length ps.length) ps := by
  have h := World.ownsRow_lit (base := base) (e := e) (size := size) W inner.toArray ps.length hb (by simpa [maxLen] using hm) (by simpa using hr.1)
  exact ⟨inner, by simpa using h, hr⟩
end
section
variable {P : Program} {ops : Array Oper} {rest : List Oper} {o : Oper} {a : Act} {Q : Exit → Act → World → Prop} {α : Type} {R : α → List Value → Prop}
theorem OwnRow.append {w0 W : World} (base : Nat) (hgd : o.guard = none) (s x : Operand) (t e : TypeId) (z : Value) (size bytes : Nat)
    (ho : o.op = .call { callee := .builtin .append, args := #[s, x], argTypes := #[t, t] })
    (ht : P.underlying t = some (.slice e)) (hinfo : (P.info? e).map (fun i => (i.zero, i.size, i.bytes)) = some (some z, size, bytes)) (hz : z.cells.size = size) (hs0 : 0 < size) (hb0 : 0 < bytes)
    (v : Value) (ps : List α) (p : α) (cs : List Value) (hs : a.eval s = v) (hx : a.eval x = .slice (some ⟨W.heap.size, 0, none⟩) 1 1) (hp : R p cs) (hcs : cs.length = size) (h1 : ∀ u ∈ cs, u.oneCell' = true)
    (HO : OwnRow R e size W base v ps) (HB : Below base w0 W) (hbase : base ≤ W.heap.size) (hl : (ps.length + 1) * bytes ≤ 140737488355328)
    (h : ∀ v1 w1, OwnRow R e size w1 base v1 (ps ++ [p]) → Below base w0 w1 → W.grownBy w1 v.ownBlock → (v1.ownBlock = v.ownBlock ∨ ∃ b, v1.ownBlock = some b ∧ W.heap.size ≤ b) → wpList P ops Q rest (a.put o.dst v1) w1) :
    wpList P ops Q (o :: rest) a (W.alloc (.cells cs.toArray e)) := by
  obtain ⟨inner, hown, hr⟩ := HO
  refine print_append_cells base hgd s x t e z size bytes ho ht hinfo hz hs0 hb0 v ps.length inner cs hs hx hcs h1 hown HB hbase hl ?_
  intro v1 w1 hown1 hb1 hg1 hat1
  exact h v1 w1 ⟨inner ++ cs, by rw [List.length_append, List.length_singleton]; exact hown1, hr.snoc hp hcs⟩ hb1 hg1 hat1
end
section
variable {α : Type} {P : Program}
theorem ReadsOf.len_ {enc : α → Value} {d : α} {w : World} {A : Option Addr} {n : Nat} {xs : List α} (h : ReadsOf enc d w A n xs) : ReadsOf enc d w A xs.length xs := by rw [h.1]; exact h
end
structure Kd (α : Type) where
  sz : Nat
  E : List Nat
  K : World → α → List Value → Prop
  M : World → Nat → (Nat → Prop) → α → List Value → Prop
  K_len : ∀ {w x cs}, K w x cs → cs.length = sz
  K_one : ∀ {w x cs}, K w x cs → ∀ u ∈ cs, u.oneCell' = true
  K_below : ∀ {w w1 : World} {x cs}, Below w.heap.size w w1 → K w x cs → K w1 x cs
  K_of_M : ∀ {w base ok x cs}, M w base ok x cs → K w x cs
  M_mono : ∀ {w base ok ok' x cs}, (∀ k, ok k → ok' k) → M w base ok x cs → M w base ok' x cs
  M_bound : ∀ {w : World} {base ok x cs}, M w base ok x cs → M w base (fun k => ok k ∧ base ≤ k ∧ k < w.heap.size ∧ ∃ q, q ∈ E ∧ ∃ cells, w.heap[k]? = some (.cells cells q (0, 0))) x cs
  M_move : ∀ {w w1 : World} {base ok x cs}, (∀ k, ok k → w1.heap[k]? = w.heap[k]?) → M w base ok x cs → M w1 base ok x cs
  M_lower : ∀ {w base base' ok x cs}, base' ≤ base → M w base ok x cs → M w base' ok x cs
theorem own_move {w w1 : World} {base : Nat} {e : TypeId} {size n : Nat} {v : Value} {xs : List Value} (h : w.ownsRow base e size v n xs) (hm : ∀ k, v.ownBlock = some k → w1.heap[k]? = w.heap[k]?) : w1.ownsRow base e size v n xs := by
  obtain ⟨h1, h2⟩ := h
  refine ⟨h1, ?_⟩
  rcases h2 with h2 | ⟨g, cap, cur, rfl, hg, hh, r⟩
  · exact .inl h2
  · exact .inr ⟨g, cap, cur, rfl, hg, (hm g (by simp [Value.ownBlock])).trans hh, r⟩
theorem own_typed {w : World} {base : Nat} {e : TypeId} {size n : Nat} {v : Value} {xs : List Value} (h : w.ownsRow base e size v n xs) (k : Nat) (hk : v.ownBlock = some k) : ∃ cells, w.heap[k]? = some (.cells cells e (0, 0)) := by
  rcases h.2 with ⟨rfl, _⟩ | ⟨g, cap, cur, rfl, hg, hh, r⟩
  · simp [Value.ownBlock] at hk
  · have : g = k := by simpa [Value.ownBlock] using hk
    subst this
    exact ⟨cur, hh⟩
namespace Kd
def C {α : Type} (d : Kd α) (w : World) (A : Option Addr) (n : Nat) (xs : List α) : Prop := ReadsRow (d.K w) d.sz w A n xs
def R {α : Type} (d : Kd α) (e : Nat) (w : World) (base : Nat) (ok : Nat → Prop) (v : Value) (xs : List α) : Prop :=
  (∀ k, v.ownBlock = some k → ok k) ∧ OwnRow (d.M w base (fun k => ok k ∧ some k ≠ v.ownBlock)) e d.sz w base v xs
section
variable {α : Type} {d : Kd α} {e : Nat} {w w1 : World} {base : Nat} {ok ok' : Nat → Prop} {v : Value} {xs : List α}
theorem C_below {A : Option Addr} {n : Nat} (h : d.C w A n xs) (hb : Below w.heap.size w w1) : d.C w1 A n xs := ReadsRow.imp_ h hb (fun _ _ hp => d.K_below hb hp)
theorem R_mono (h : d.R e w base ok v xs) (hok : ∀ k, ok k → ok' k) : d.R e w base ok' v xs := ⟨fun k hk => hok k (h.1 k hk), h.2.imp_ (fun _ _ hp => d.M_mono (fun k hk => ⟨hok k hk.1, hk.2⟩) hp)⟩
theorem R_bound (h : d.R e w base ok v xs) : d.R e w base (fun k => ok k ∧ base ≤ k ∧ k < w.heap.size ∧ ∃ q, q ∈ e :: d.E ∧ ∃ cells, w.heap[k]? = some (.cells cells q (0, 0))) v xs := by
  obtain ⟨h0, inner, ho, hr⟩ := h
  refine ⟨fun k hk => ?_, inner, ho, hr.imp_ (fun _ _ hp => d.M_mono (fun k hk => ?_) (d.M_bound hp))⟩
  · obtain ⟨cells, hc⟩ := own_typed ho k hk
    exact ⟨h0 k hk, own_base ho k hk, own_lt ho k hk, e, List.mem_cons_self, cells, hc⟩
  · obtain ⟨⟨h1, h2⟩, h3, h4, q, hq, hc⟩ := hk
    exact ⟨⟨h1, h3, h4, q, List.mem_cons_of_mem _ hq, hc⟩, h2⟩
theorem R_move (h : d.R e w base ok v xs) (hm : ∀ k, ok k → w1.heap[k]? = w.heap[k]?) : d.R e w1 base ok v xs := by
  obtain ⟨h0, inner, ho, hr⟩ := h
  exact ⟨h0, inner, own_move ho (fun k hk => hm k (h0 k hk)), hr.imp_ (fun _ _ hp => d.M_move (fun k hk => hm k hk.1) hp)⟩
theorem R_lower {base' : Nat} (h : d.R e w base ok v xs) (hb : base' ≤ base) : d.R e w base' ok v xs := by
  obtain ⟨h0, inner, ho, hr⟩ := h
  exact ⟨h0, inner, own_weaken ho hb, hr.imp_ (fun _ _ hp => d.M_lower hb hp)⟩
theorem R_reads (h : d.R e w base ok v xs) : ∃ A c, v = .slice A xs.length c ∧ xs.length ≤ c ∧ d.C w A xs.length xs := by
  obtain ⟨A, c, he, hl, hr⟩ := OwnRow.reads h.2
  exact ⟨A, c, he, hl, hr.imp_ (Below.refl _ _) (fun _ _ hp => d.K_of_M hp)⟩
end
def scalar {α : Type} (enc : α → Value) (h1 : ∀ x, (enc x).oneCell' = true) : Kd α where
  sz := 1
  E := []
  K := fun _ x cs => cs = [enc x]
  M := fun _ _ _ x cs => cs = [enc x]
  K_len := fun h => by rw [h]; rfl
  K_one := fun h u hu => by
    rw [h] at hu
    rw [List.mem_singleton.1 hu]
    exact h1 _
  K_below := fun _ h => h
  K_of_M := fun h => h
  M_mono := fun _ h => h
  M_bound := fun h => h
  M_move := fun _ h => h
  M_lower := fun _ h => h
def int (k : IntKind) : Kd Int := scalar (Value.int k) (fun _ => rfl)
def bool : Kd Bool := scalar Value.bool (fun _ => rfl)
def string : Kd ByteArray := scalar Value.string (fun _ => rfl)
def slice {α : Type} (e : Nat) (d : Kd α) : Kd (List α) where
  sz := 1
  E := e :: d.E
  K := fun w xs cs => ∃ A c, cs = [.slice A xs.length c] ∧ xs.length ≤ c ∧ d.C w A xs.length xs
  M := fun w base ok xs cs => ∃ v, cs = [v] ∧ d.R e w base ok v xs
  K_len := by
    rintro w x cs ⟨A, c, rfl, _⟩
    rfl
  K_one := by
    rintro w x cs ⟨A, c, rfl, _⟩ u hu
    rw [List.mem_singleton.1 hu]
    rfl
  K_below := by
    rintro w w1 x cs hb ⟨A, c, rfl, hl, hr⟩
    exact ⟨A, c, rfl, hl, C_below hr hb⟩
  K_of_M := by
    rintro w base ok x cs ⟨v, rfl, h⟩
    obtain ⟨A, c, rfl, hl, hr⟩ := R_reads h
    exact ⟨A, c, rfl, hl, hr⟩
  M_mono := by
    rintro w base ok ok' x cs hok ⟨v, rfl, h⟩
    exact ⟨v, rfl, R_mono h hok⟩
  M_bound := by
    rintro w base ok x cs ⟨v, rfl, h⟩
    exact ⟨v, rfl, R_bound h⟩
  M_move := by
    rintro w w1 base ok x cs hm ⟨v, rfl, h⟩
    exact ⟨v, rfl, R_move h hm⟩
  M_lower := by
    rintro w base base' ok x cs hb ⟨v, rfl, h⟩
    exact ⟨v, rfl, R_lower h hb⟩
def pair {α β : Type} (a : Kd α) (b : Kd β) : Kd (α × β) where
  sz := a.sz + b.sz
  E := a.E ++ b.E
  K := fun w x cs => ∃ c0 c1, cs = c0 ++ c1 ∧ a.K w x.1 c0 ∧ b.K w x.2 c1
  M := fun w base ok x cs => ∃ c0 c1, cs = c0 ++ c1 ∧ a.M w base ok x.1 c0 ∧ b.M w base ok x.2 c1
  K_len := by
    rintro w x cs ⟨c0, c1, rfl, h0, h1⟩
    rw [List.length_append, a.K_len h0, b.K_len h1]
  K_one := by
    rintro w x cs ⟨c0, c1, rfl, h0, h1⟩ u hu
    rcases List.mem_append.1 hu with hu | hu
    · exact a.K_one h0 u hu
    · exact b.K_one h1 u hu
  K_below := by
    rintro w w1 x cs hb ⟨c0, c1, rfl, h0, h1⟩
    exact ⟨c0, c1, rfl, a.K_below hb h0, b.K_below hb h1⟩
  K_of_M := by
    rintro w base ok x cs ⟨c0, c1, rfl, h0, h1⟩
    exact ⟨c0, c1, rfl, a.K_of_M h0, b.K_of_M h1⟩
  M_mono := by
    rintro w base ok ok' x cs hok ⟨c0, c1, rfl, h0, h1⟩
    exact ⟨c0, c1, rfl, a.M_mono hok h0, b.M_mono hok h1⟩
  M_bound := by
    rintro w base ok x cs ⟨c0, c1, rfl, h0, h1⟩
    refine ⟨c0, c1, rfl, a.M_mono ?_ (a.M_bound h0), b.M_mono ?_ (b.M_bound h1)⟩
    · rintro k ⟨h2, h3, h4, q, hq, hc⟩
      exact ⟨h2, h3, h4, q, List.mem_append_left _ hq, hc⟩
    · rintro k ⟨h2, h3, h4, q, hq, hc⟩
      exact ⟨h2, h3, h4, q, List.mem_append_right _ hq, hc⟩
  M_move := by
    rintro w w1 base ok x cs hm ⟨c0, c1, rfl, h0, h1⟩
    exact ⟨c0, c1, rfl, a.M_move hm h0, b.M_move hm h1⟩
  M_lower := by
    rintro w base base' ok x cs hb ⟨c0, c1, rfl, h0, h1⟩
    exact ⟨c0, c1, rfl, a.M_lower hb h0, b.M_lower hb h1⟩
def bot {α : Type} (sz : Nat) (E : List Nat) : Kd α where
  sz := sz
  E := E
  K := fun _ _ _ => False
  M := fun _ _ _ _ _ => False
  K_len := fun h => h.elim
  K_one := fun h => h.elim
  K_below := fun _ h => h
  K_of_M := fun h => h
  M_mono := fun _ h => h
  M_bound := fun h => h
  M_move := fun _ h => h
  M_lower := fun _ h => h
def upto {α : Type} (F : Kd α → Kd α) (sz : Nat) (E : List Nat) : Nat → Kd α
  | 0 => bot sz E
  | n + 1 => F (upto F sz E n)
end Kd
namespace Kd
section
variable {α β : Type} {d : Kd α} {d' : Kd β} {e e' : Nat} {w w1 W : World} {base b b' : Nat} {ok ok' okv oku : Nat → Prop} {v u : Value} {xs : List α} {ys : List β}
theorem C_nil (d : Kd α) (w : World) : d.C w none ([] : List α).length [] := ⟨rfl, by simp, fun h => absurd h (Nat.lt_irrefl 0)⟩
end
end Kd
def QRow (w : World) (base : Nat) (e : TypeId) (size : Nat) (v : Value) (n : Nat) (xs : List Value) : Prop :=
  xs.length = n * size ∧
  ((n = 0 ∧ ∃ A, v = .slice A 0 0 ∧ ∀ a, A = some a → base ≤ a.block ∧ ∃ cur, w.heap[a.block]? = some (.cells cur e (0, 0))) ∨
   ∃ g off cap cur, v = .slice (some ⟨g, off * size, none⟩) n cap ∧ base ≤ g ∧ w.heap[g]? = some (.cells cur e (0, 0)) ∧ n ≤ cap ∧ off + cap ≤ maxLen ∧ cur.size = (off + cap) * size ∧ (cur.toList.drop (off * size)).take (n * size) = xs)
namespace Kd
def Q {α : Type} (d : Kd α) (e : Nat) (w : World) (base : Nat) (ok : Nat → Prop) (v : Value) (xs : List α) : Prop :=
  (∀ k, v.ownBlock = some k → ok k) ∧ ∃ inner, QRow w base e d.sz v xs.length inner ∧ Reps (d.M w base (fun k => ok k ∧ some k ≠ v.ownBlock)) d.sz xs inner
end Kd
theorem add_add (a : Addr) (i j : Nat) : (a.add i).add j = a.add (i + j) := by
  unfold Addr.add
  by_cases h1 : i = 0 <;> by_cases h2 : j = 0 <;> simp [h1, h2, Nat.add_assoc]
theorem ReadsInt.nil (W : World) (k : IntKind) : ReadsInt W k none ([] : List Int).length [] := ⟨rfl, by simp, fun h => absurd h (Nat.lt_irrefl 0)⟩
theorem ReadsInt.drewN {W : World} {k : IntKind} {A : Option Addr} {n : Nat} {xs : List Int} (h : ReadsInt W k A n xs) (m : Nat) : ReadsInt (W.drewN m) k A n xs := h
theorem ReadsOf.nil {α : Type} (enc : α → Value) (d : α) (W : World) : ReadsOf enc d W none ([] : List α).length [] := ⟨rfl, by simp, fun h => absurd h (Nat.lt_irrefl 0)⟩
theorem ReadsOf.drewN {α : Type} {enc : α → Value} {d : α} {W : World} {A : Option Addr} {n : Nat} {xs : List α} (h : ReadsOf enc d W A n xs) (m : Nat) : ReadsOf enc d (W.drewN m) A n xs := h
end Go.Proofs.YtfpjamnilcjnjaaGreatDoorW.PrintWords
namespace Go.Proofs.YtfpjamnilcjnjaaGreatDoorW.PrintLast
section
variable {P : Program} {ops : Array Oper} {Q : Exit → Act → World → Prop} {md : Region.Mode} {S : World → Prop} {ds : List Nat}
def ListedClosed (md : Region.Mode) (ops : Array Oper) (listed : Array Bool) : Prop :=
  ∀ j oj, ops[j]? = some oj → listed.getD j false = true → ∀ e ∈ oj.after, Region.binds md e = true → listed.getD e.on false = true
theorem ListedClosed.set {listed : Array Bool} {i : Nat} (h : ListedClosed md ops listed) (hi : i ∈ Region.ready md ops listed) : ListedClosed md ops (listed.setIfInBounds i true) := by
  obtain ⟨_, oi, hoi, hall⟩ := mem_ready.1 hi
  intro j oj hj hl e he hb
  by_cases hij : i = j
  · subst hij
    have : oj = oi := Option.some.inj (hj.symm.trans hoi)
    subst this
    exact getD_set_true (hall e he hb)
  · rw [getD_set_ne false hij] at hl
    exact getD_set_true (h j oj hj hl e he hb)
def wpAnyLast (P : Program) (md : Region.Mode) (ops : Array Oper) (Q : Exit → Act → World → Prop) (S : World → Prop) (ds : List Nat) : Nat → Array Bool → Act → World → Prop
  | 0, listed, a, w => Region.ready md ops listed = [] ∧ Q .normal a w
  | fuel + 1, listed, a, w =>
    (Region.ready md ops listed = [] → Q .normal a w) ∧
    ∀ i ∈ Region.ready md ops listed, wpOp P ops Q i (fun a' w' => (i ∉ ds → S w → S w') ∧ wpAnyLast P md ops Q S ds fuel (listed.setIfInBounds i true) a' w') a w
end
section
variable {P : Program} {ops : Array Oper} {Q : Exit → Act → World → Prop} {md : Region.Mode} {S : World → Prop} {ds : List Nat}
def AllReadyL (P : Program) (md : Region.Mode) (ops : Array Oper) (Q : Exit → Act → World → Prop) (S : World → Prop) (ds : List Nat) (fuel : Nat) (listed : Array Bool) (a : Act) (w : World) (rs : List Nat) : Prop :=
  ∀ i ∈ rs, wpOp P ops Q i (fun a' w' => (i ∉ ds → S w → S w') ∧ wpAnyLast P md ops Q S ds fuel (listed.setIfInBounds i true) a' w') a w
theorem AllReadyL.nil {fuel : Nat} {listed : Array Bool} {a : Act} {w : World} : AllReadyL P md ops Q S ds fuel listed a w [] := fun _ h => by cases h
theorem AllReadyL.cons {fuel : Nat} {listed : Array Bool} {a : Act} {w : World} {i : Nat} {o : Oper} {rs : List Nat} (ho : ops[i]? = some o) (hd : i ∉ ds)
    (h : ∀ K' : Act → World → Prop, Shut (∀ a w, S w → (S w → wpAnyLast P md ops Q S ds fuel (listed.setIfInBounds i true) a w) → K' a w) → if Region.wanted o (yielded ops a.tmps) = true then Oper.wp P o a w K' Q else K' (a.put o.dst undef) w)
    (hs : AllReadyL P md ops Q S ds fuel listed a w rs) : AllReadyL P md ops Q S ds fuel listed a w (i :: rs) := fun j hj => by
  rcases List.mem_cons.1 hj with rfl | hj
  · exact wpOp_step ho (fun K' hK => h K' (fun a w hS hW => hK a w ⟨fun _ _ => hS, hW hS⟩))
  · exact hs j hj
end
end Go.Proofs.YtfpjamnilcjnjaaGreatDoorW.PrintLast
namespace Go.Proofs.YtfpjamnilcjnjaaGreatDoorW.PrintWords
open Go.RowKit
namespace Kd
def tag {α : Type} (f : Nat → Nat) (d : Kd α) : Kd (α × Nat) where
  sz := d.sz
  E := d.E
  K := fun w x cs => d.K w x.1 cs
  M := fun w base ok x cs => d.M w base (fun k => ok k ∧ f k = x.2) x.1 cs
  K_len := fun h => d.K_len h
  K_one := fun h => d.K_one h
  K_below := fun hb h => d.K_below hb h
  K_of_M := fun h => d.K_of_M h
  M_mono := fun hok h => d.M_mono (fun k hk => ⟨hok k hk.1, hk.2⟩) h
  M_bound := fun h => d.M_mono (fun _ hk => ⟨⟨hk.1.1, hk.2⟩, hk.1.2⟩) (d.M_bound h)
  M_move := fun hm h => d.M_move (fun k hk => hm k hk.1) h
  M_lower := fun hb h => d.M_lower hb h
def raw (sz : Nat) : Kd (List Value) where
  sz := sz
  E := []
  K := fun _ x cs => cs = x ∧ cs.length = sz ∧ ∀ u ∈ cs, u.oneCell' = true
  M := fun _ _ _ x cs => cs = x ∧ cs.length = sz ∧ ∀ u ∈ cs, u.oneCell' = true
  K_len := fun h => h.2.1
  K_one := fun h => h.2.2
  K_below := fun _ h => h
  K_of_M := fun h => h
  M_mono := fun _ h => h
  M_bound := fun h => h
  M_move := fun _ h => h
  M_lower := fun _ h => h
def S {α : Type} (d : Kd α) (e : Nat) (w : World) (base : Nat) (ok : Nat → Prop) (v : Value) (xs : List α) : Prop := ∃ f, (tag f d).R e w base ok v xs.zipIdx
def gap {α : Type} (f : Nat → Nat) (d : Kd α) (i : Nat) (c : List Value) : Kd (α × Nat) where
  sz := d.sz
  E := d.E
  K := fun w x cs => (x.2 = i → cs = c ∧ cs.length = d.sz ∧ ∀ u ∈ cs, u.oneCell' = true) ∧ (x.2 ≠ i → d.K w x.1 cs)
  M := fun w base ok x cs => (x.2 = i → cs = c ∧ cs.length = d.sz ∧ ∀ u ∈ cs, u.oneCell' = true) ∧ (x.2 ≠ i → d.M w base (fun k => ok k ∧ f k = x.2) x.1 cs)
  K_len := fun {w x cs} h => by
    by_cases hx : x.2 = i
    · exact (h.1 hx).2.1
    · exact d.K_len (h.2 hx)
  K_one := fun {w x cs} h => by
    by_cases hx : x.2 = i
    · exact (h.1 hx).2.2
    · exact d.K_one (h.2 hx)
  K_below := fun hb h => ⟨h.1, fun hx => d.K_below hb (h.2 hx)⟩
  K_of_M := fun h => ⟨h.1, fun hx => d.K_of_M (h.2 hx)⟩
  M_mono := fun hok h => ⟨h.1, fun hx => d.M_mono (fun k hk => ⟨hok k hk.1, hk.2⟩) (h.2 hx)⟩
  M_bound := fun h => ⟨h.1, fun hx => d.M_mono (fun _ hk => ⟨⟨hk.1.1, hk.2⟩, hk.1.2⟩) (d.M_bound (h.2 hx))⟩
  M_move := fun hm h => ⟨h.1, fun hx => d.M_move (fun k hk => hm k hk.1) (h.2 hx)⟩
  M_lower := fun hb h => ⟨h.1, fun hx => d.M_lower hb (h.2 hx)⟩
def H {α : Type} (d : Kd α) (e : Nat) (w : World) (base : Nat) (ok : Nat → Prop) (v : Value) (xs : List α) (i : Int) (oki : Nat → Prop) (c : List Value) : Prop :=
  (∀ k, oki k → ok k) ∧ ∃ f, (gap f d i.toNat c).R e w base (fun k => ok k ∧ ¬ oki k) v xs.zipIdx
end Kd
end Go.Proofs.YtfpjamnilcjnjaaGreatDoorW.PrintWords
namespace Go.Proofs.YtfpjamnilcjnjaaGreatDoorW.PrintWords
open Go.RowKit
namespace Kd
structure Heap {α : Type} (d : Kd α) : Prop where
  K : ∀ {w w1 : World} {x : α} {cs : List Value}, (∀ k, k < w.heap.size → w1.heap[k]? = w.heap[k]?) → d.K w x cs → d.K w1 x cs
theorem cell_heap {w w1 : World} (hb : ∀ k, k < w.heap.size → w1.heap[k]? = w.heap[k]?) {a : Addr} {v : Value} (h : w.cell? a = some v) : w1.cell? a = some v := by
  have := hb a.block (World.block_lt_of_cell? w a h)
  simpa [World.cell?, this] using h
theorem Heap.C {α : Type} {d : Kd α} (hd : Heap d) {w w1 : World} {A : Option Addr} {n : Nat} {xs : List α} (hb : ∀ k, k < w.heap.size → w1.heap[k]? = w.heap[k]?) (h : d.C w A n xs) : d.C w1 A n xs :=
  ⟨h.1, h.2.1, fun hn => by
    obtain ⟨ad, e, hc⟩ := h.2.2 hn
    refine ⟨ad, e, fun j p hj => ?_⟩
    obtain ⟨c, hs, hr, hcell⟩ := hc j p hj
    exact ⟨c, hs, hd.K hb hr, fun i u hu => cell_heap hb (hcell i u hu)⟩⟩
end Kd
end Go.Proofs.YtfpjamnilcjnjaaGreatDoorW.PrintWords
namespace Go.Proofs.YtfpjamnilcjnjaaGreatDoorW.PrintWords
open Go.RowKit
def Kept (w W : World) (S : Nat → Prop) : Prop := w.heap.size ≤ W.heap.size ∧ ∀ i, i < w.heap.size → ¬ S i → W.heap[i]? = w.heap[i]?
section
variable {w W W2 : World} {S S2 S' : Nat → Prop}
theorem Kept.refl (w : World) (S : Nat → Prop) : Kept w w S := ⟨Nat.le_refl _, fun _ _ _ => rfl⟩
theorem Kept.of_below (h : Below w.heap.size w W) (S : Nat → Prop) : Kept w W S := ⟨h.size, fun i hi _ => h.block i hi⟩
theorem Kept.mono (h : Kept w W S) (hs : ∀ k, S k → S' k) : Kept w W S' := ⟨h.1, fun i hi hn => h.2 i hi (fun hk => hn (hs i hk))⟩
theorem Kept.then_ (h : Kept w W S) (k : Kept W W2 S2) (hs : ∀ k, S2 k → S k ∨ w.heap.size ≤ k) : Kept w W2 S :=
  ⟨Nat.le_trans h.1 k.1, fun i hi hn => (k.2 i (Nat.lt_of_lt_of_le hi h.1) (fun h2 => (hs i h2).elim hn (fun h3 => by omega))).trans (h.2 i hi hn)⟩
theorem Kept.below (h : Kept w W S) (hb : Below W.heap.size W W2) : Kept w W2 S := h.then_ (Kept.of_below hb (fun _ => False)) (fun _ hk => hk.elim)
theorem Kept.alloc (h : Kept w W S) (o : Obj) : Kept w (W.alloc o) S := h.below (below_alloc (Below.refl _ _) o)
theorem Kept.drew (h : Kept w W S) : Kept w W.drew S := h
theorem Kept.drewN (h : Kept w W S) (m : Nat) : Kept w (W.drewN m) S := h
theorem Kept.setCell (h : Kept w W S) {p : Addr} (hp : S p.block ∨ w.heap.size ≤ p.block) (u : Value) : Kept w (W.setCell p u) S :=
  h.then_ (S2 := fun k => k = p.block) ⟨by simp [World.setCell], fun i _ hn => Below.heap_setCell W p u i hn⟩ (fun k hk => by rw [hk]; exact hp)
end
end Go.Proofs.YtfpjamnilcjnjaaGreatDoorW.PrintWords
namespace Go.Proofs.YtfpjamnilcjnjaaGreatDoorW.PrintWords
open Go.RowKit
def Foot (P : World → Prop) (W : World) (ok : Nat → Prop) : Prop := ∀ W' : World, (∀ k, ok k → k < W.heap.size → W'.heap[k]? = W.heap[k]?) → P W'
theorem heap_lt {W W1 : World} {k : Nat} (h : W1.heap[k]? = W.heap[k]?) (hlt : k < W.heap.size) : k < W1.heap.size := by
  rw [Array.getElem?_eq_getElem hlt] at h
  exact (Array.getElem?_eq_some_iff.1 h).1
namespace Foot
variable {P Q : World → Prop} {W W1 : World} {ok ok' : Nat → Prop}
theorem now (h : Foot P W ok) : P W := h W (fun _ _ _ => rfl)
theorem mono (h : Foot P W ok) (hok : ∀ k, ok k → ok' k) : Foot P W ok' := fun W' hW => h W' (fun k hk hlt => hW k (hok k hk) hlt)
theorem bound (h : Foot P W ok) : Foot P W (fun k => ok k ∧ k < W.heap.size) := fun W' hW => h W' (fun k hk hlt => hW k ⟨hk, hlt⟩ hlt)
theorem step (h : Foot P W ok) (hm : ∀ k, ok k → k < W.heap.size → W1.heap[k]? = W.heap[k]?) : Foot P W1 ok := fun W' hW => h W' (fun k hk hlt => (hW k hk (heap_lt (hm k hk hlt) hlt)).trans (hm k hk hlt))
theorem imp (h : Foot P W ok) (hi : ∀ W', P W' → Q W') : Foot Q W ok := fun W' hW => hi W' (h W' hW)
theorem old (h : Foot P W ok) (hb : Below W.heap.size W W1) : Foot P W1 (fun k => ok k ∧ k < W.heap.size) := (h.bound).step (fun k _ hlt => hb.block k hlt)
end Foot
namespace Kd
def F {α : Type} (d : Kd α) (W : World) (ok : Nat → Prop) (A : Option Addr) (n : Nat) (xs : List α) : Prop := Foot (fun W => d.C W A n xs) W ok
def FK {α : Type} (d : Kd α) (W : World) (ok : Nat → Prop) (x : α) (c : List Value) : Prop := Foot (fun W => d.K W x c) W ok
end Kd
end Go.Proofs.YtfpjamnilcjnjaaGreatDoorW.PrintWords
namespace Go.Proofs.YtfpjamnilcjnjaaGreatDoorW.PrintWords
open Go.RowKit
namespace Kd
section
variable {α : Type} {d : Kd α} {e base n cc g : Nat} {ok ok' okp S : Nat → Prop} {w w1 W W1 : World} {A : Option Addr} {u v v1 : Value} {xs : List α} {x : α} {c : List Value}
def N {α : Type} (d : Kd α) (e : Nat) (w : World) (base : Nat) (ok : Nat → Prop) (v : Value) (xs : List α) : Prop :=
  (∀ k, v.ownBlock = some k → ok k) ∧ ∃ rows : List (List Value), rows.length = xs.length ∧ (raw d.sz).R e w base (fun k => some k = v.ownBlock) v rows ∧ ∀ (j : Nat) (x : α) (c : List Value), xs[j]? = some x → rows[j]? = some c → FK d w (fun k => ok k ∧ some k ≠ v.ownBlock) x c
end
end Kd
end Go.Proofs.YtfpjamnilcjnjaaGreatDoorW.PrintWords
namespace GoD
open Go Go.Proofs
set_option linter.unusedVariables false
set_option linter.unusedSimpArgs false
set_option maxHeartbeats 4000000
set_option maxRecDepth 100000
theorem decD_wr : ∀ n : Nat, decD n = wrB 0 120 n := by
  intro n
  show decD n = digsB 10 n
  induction n using Nat.strongRecOn with
  | ind n ih =>
    by_cases h : n < 10
    · rw [decD, dif_pos h, digsB, dif_pos (.inl h), dgB, if_pos h]
    · rw [decD, dif_neg h, digsB, dif_neg (by omega), ih _ (by omega), dgB, if_pos (by omega)]
theorem dec_piece {n : Nat} (h : n < 4294967296) : pieceV (decD n) = some (n : Int) := by rw [decD_wr]; exact wr_piece (.inr rfl) h
theorem dec_nil (n : Nat) : decD n ≠ [] := by rw [decD_wr]; exact wr_ne _ _ _
theorem dec_mem {n : Nat} {c : Int} (h : c ∈ decD n) : 48 ≤ c ∧ c ≤ 57 := by
  induction n using Nat.strongRecOn with
  | ind n ih =>
    by_cases h1 : n < 10
    · rw [decD, dif_pos h1] at h
      obtain rfl := List.mem_singleton.1 h
      omega
    · rw [decD, dif_neg h1] at h
      rcases List.mem_append.1 h with h | h
      · exact ih _ (by omega) h
      · obtain rfl := List.mem_singleton.1 h
        omega
theorem dec_dot (n : Nat) : (46 : Int) ∉ decD n := fun h => by have := dec_mem h; omega
theorem dec_numeric (n : Nat) : numericB (decD n) = true := by rw [decD_wr]; exact wr_numeric
theorem dec_digits (n : Nat) : digitsB 10 (decD n) = true := by rw [decD_wr]; exact digs_all (b := 10) (by decide) (by decide)
theorem split_text (a : Int) : splitL 46 (textL a) = [decD (a / 16777216).toNat, decD (a / 65536 % 256).toNat, decD (a / 256 % 256).toNat, decD (a % 256).toNat] := by
  unfold textL
  rw [show decD (a / 16777216).toNat ++ [46] ++ decD (a / 65536 % 256).toNat ++ [46] ++ decD (a / 256 % 256).toNat ++ [46] ++ decD (a % 256).toNat = decD (a / 16777216).toNat ++ 46 :: (decD (a / 65536 % 256).toNat ++ 46 :: (decD (a / 256 % 256).toNat ++ 46 :: decD (a % 256).toNat)) by simp]
  rw [splitL_cons (dec_dot _), splitL_cons (dec_dot _), splitL_cons (dec_dot _), splitL_none (dec_dot _)]
theorem parts_text (a : Int) : partsL (textL a) = [decD (a / 16777216).toNat, decD (a / 65536 % 256).toNat, decD (a / 256 % 256).toNat, decD (a % 256).toNat] := by
  unfold partsL
  rw [split_text, if_neg]
  rintro ⟨_, h⟩
  simp at h
  exact dec_nil _ h
theorem number_text {a : Int} (h0 : 0 ≤ a) (h1 : a < 4294967296) : numberL (textL a) = some a := by
  unfold numberL
  rw [parts_text, if_neg (by simp)]
  have e1 := dec_piece (n := (a / 16777216).toNat) (by omega)
  have e2 := dec_piece (n := (a / 65536 % 256).toNat) (by omega)
  have e3 := dec_piece (n := (a / 256 % 256).toNat) (by omega)
  have e4 := dec_piece (n := (a % 256).toNat) (by omega)
  rw [numL_cons e1 (by simp) (by omega) (numL_cons e2 (by simp) (by omega) (numL_cons e3 (by simp) (by omega) (numL_one e4 (by simp; omega))))]
  simp only [p24, p16, p8, show (2 : Int) ^ (8 * (4 - 1 - 1)) = 65536 by decide, show (2 : Int) ^ (8 * (4 - 1 - 1 - 1)) = 256 by decide]
  congr 1
  omega
theorem text_mem {a c : Int} (hc : c ∈ textL a) : (48 ≤ c ∧ c ≤ 57) ∨ c = 46 := by
  unfold textL at hc
  simp only [List.mem_append, List.mem_singleton] at hc
  rcases hc with ((((((hc | hc) | hc) | hc) | hc) | hc) | hc)
  all_goals first | exact Or.inr hc | exact Or.inl (dec_mem hc)
theorem text_fix (a : Int) : textL a ≠ [] ∧ decodeL (textL a) = textL a ∧ lowerL (textL a) = textL a ∧ (textL a).any forbB = false := by
  refine ⟨by unfold textL; simp, dec_none fun m => by have := text_mem m; omega, low_same fun c m => by have := text_mem m; omega, ?_⟩
  rw [List.any_eq_false]
  intro c m
  have hc := text_mem m
  have key : ∀ k : Fin 256, ((48 ≤ (k.val : Int) ∧ (k.val : Int) ≤ 57) ∨ (k.val : Int) = 46) → forbB (k.val : Int) = false := by decide +kernel
  have q := key ⟨c.toNat, by omega⟩
  rw [show ((c.toNat : Nat) : Int) = c by omega] at q
  simp [q hc]
theorem lowB_low (c : Int) : lowB (lowB c) = lowB c := by unfold lowB; omega
theorem lowerL_low (xs : List Int) : lowerL (lowerL xs) = lowerL xs := by
  unfold lowerL
  rw [List.map_map]
  exact List.map_congr_left fun c _ => lowB_low c
theorem host_fixed {xs h : List Int} (e : hostL xs = some h) : h ≠ [] ∧ decodeL h = h ∧ lowerL h = h ∧ h.any forbB = false := by
  unfold hostL at e
  split at e
  · cases e
  · rename_i h1
    simp only [not_or, Bool.not_eq_true] at h1
    split at e
    · obtain ⟨n, hn, rfl⟩ := Option.map_eq_some_iff.1 e
      exact text_fix n
    · obtain rfl := Option.some.inj e
      refine ⟨h1.1, dec_none fun m => ?_, lowerL_low _, h1.2⟩
      exact List.any_eq_false.1 h1.2 37 m (by decide)
theorem host_back {xs h : List Int} (e : hostL xs = some h) : hostL h = some h := by
  obtain ⟨f1, f2, f3, f4⟩ := host_fixed e
  have hn : ¬ (h = [] ∨ h.any forbB = true) := by simp [f1, f4]
  unfold hostL at e ⊢
  rw [f2, f3, if_neg hn]
  split at e
  · cases e
  · split at e
    · obtain ⟨n, hnn, rfl⟩ := Option.map_eq_some_iff.1 e
      have hr := numberL_le hnn
      rw [parts_text, show List.getLastD [decD (n / 16777216).toNat, decD (n / 65536 % 256).toNat, decD (n / 256 % 256).toNat, decD (n % 256).toNat] [] = decD (n % 256).toNat from rfl, if_pos (dec_numeric _), number_text hr.1 hr.2]
      rfl
    · rename_i h3
      obtain rfl := Option.some.inj e
      rw [if_neg h3]
theorem portA_snoc : ∀ (xs : List Int) (n c : Int), portA n (xs ++ [c]) = (portA n xs).bind fun m => if 65535 < 10 * m + (c - 48) then none else some (10 * m + (c - 48))
  | [], n, c => by simp [portA]
  | x :: xs, n, c => by
    rw [List.cons_append, portA, portA]
    split
    · rfl
    · exact portA_snoc xs _ c
theorem portA_dec : ∀ n : Nat, portA 0 (decD n) = if n ≤ 65535 then some (n : Int) else none := by
  intro n
  induction n using Nat.strongRecOn with
  | ind n ih =>
    by_cases h : n < 10
    · rw [decD, dif_pos h, portA, portA, if_neg (by omega), if_pos (by omega)]
      congr 1; omega
    · rw [decD, dif_neg h, portA_snoc, ih _ (by omega)]
      by_cases h2 : n / 10 ≤ 65535
      · rw [if_pos h2, Option.bind_some]
        by_cases h3 : n ≤ 65535
        · rw [if_neg (by omega), if_pos h3]; congr 1; omega
        · rw [if_pos (by omega), if_neg h3]
      · rw [if_neg h2, if_neg (by omega)]; rfl
theorem hexD_not {v : Int} (h0 : 0 ≤ v) (h1 : v < 16) : hexD v ≠ 47 ∧ hexD v ≠ 92 ∧ hexD v ≠ 46 ∧ hexD v ≠ 37 ∧ (lowB (hexD v) = 50 → v = 2) ∧ (lowB (hexD v) = 101 → v = 14) := by
  have key : ∀ k : Fin 16, hexD (k.val : Int) ≠ 47 ∧ hexD (k.val : Int) ≠ 92 ∧ hexD (k.val : Int) ≠ 46 ∧ hexD (k.val : Int) ≠ 37 ∧ (lowB (hexD (k.val : Int)) = 50 → (k.val : Int) = 2) ∧ (lowB (hexD (k.val : Int)) = 101 → (k.val : Int) = 14) := by decide +kernel
  have := key ⟨v.toNat, by omega⟩
  rwa [show ((v.toNat : Nat) : Int) = v by omega] at this
theorem encL_mem {s c : Int} : ∀ {l : List Int}, Byt l → c ∈ encL s l → c = 37 ∨ (∃ v, 0 ≤ v ∧ v < 16 ∧ c = hexD v) ∨ c ∈ l
  | [], _, h => by simp [encL] at h
  | d :: t, hb, h => by
    have hd := hb d (by simp)
    have ih := fun h => encL_mem (s := s) (c := c) (l := t) (fun c hc => hb c (by simp [hc])) h
    rw [encL] at h
    split at h
    · simp only [List.mem_cons] at h
      rcases h with h | h | h | h
      · exact .inl h
      · exact .inr (.inl ⟨d / 16, by omega, by omega, h⟩)
      · exact .inr (.inl ⟨d % 16, by omega, by omega, h⟩)
      · rcases ih h with h | h | h
        · exact .inl h
        · exact .inr (.inl h)
        · exact .inr (.inr (by simp [h]))
    · rcases List.mem_cons.1 h with h | h
      · exact .inr (.inr (by simp [h]))
      · rcases ih h with h | h | h
        · exact .inl h
        · exact .inr (.inl h)
        · exact .inr (.inr (by simp [h]))
theorem lower_cons' (c : Int) (t : List Int) : lowerL (c :: t) = lowB c :: lowerL t := rfl
theorem encL_head {c : Int} {t : List Int} (h : inB c 3 = true) : encL 3 (c :: t) = 37 :: hexD (c / 16) :: hexD (c % 16) :: encL 3 t := by rw [encL, if_pos h]
theorem encL_headn {c : Int} {t : List Int} (h : inB c 3 = false) : encL 3 (c :: t) = c :: encL 3 t := by rw [encL, if_neg (by rw [h]; simp)]
theorem dots_enc : ∀ (f : Nat) (p : List Int) (n : Nat), p.length ≤ f → Byt p → dotsL (lowerL (encL 3 p)) = some n → dotsL (lowerL p) = some n
  | _, [], n, _, _, h => h
  | 0, c :: t, _, hf, _, _ => by simp at hf
  | f + 1, c :: t, n, hf, hb, h => by
    have hc := hb c (by simp)
    have ht : Byt t := fun x hx => hb x (by simp [hx])
    have hl : t.length ≤ f := by simpa using hf
    cases hi : inB c 3 with
    | true =>
      rw [encL_head hi, lower_cons', lower_cons', lower_cons', dotsL_cons, if_neg (by decide), if_pos (by decide), dotsT] at h
      have h1 := (hexD_not (v := c / 16) (by omega) (by omega)).2.2.2.2.1
      have h2 := (hexD_not (v := c % 16) (by omega) (by omega)).2.2.2.2.2
      split at h
      · rename_i h3
        have e1 := h1 h3.1
        have e2 := h2 h3.2
        have e : c = 46 := by omega
        rw [e] at hi
        exact absurd hi (by decide)
      · cases h
    | false =>
      rw [encL_headn hi, lower_cons', dotsL_cons] at h
      rw [lower_cons', dotsL_cons]
      by_cases h1 : lowB c = 46
      · rw [if_pos h1] at h ⊢
        obtain ⟨m, hm, rfl⟩ := Option.map_eq_some_iff.1 h
        rw [dots_enc f t m hl ht hm]; rfl
      · rw [if_neg h1] at h ⊢
        by_cases h2 : lowB c = 37
        · rw [if_pos h2] at h ⊢
          match t, hl, ht, h with
          | [], _, _, h => exact h
          | a :: t1, hl, ht, h =>
            cases ha : inB a 3 with
            | true =>
              rw [encL_head ha, lower_cons', lower_cons', dotsT, if_neg (fun e => absurd e.1 (by decide))] at h
              cases h
            | false =>
              rw [encL_headn ha, lower_cons'] at h
              match t1, hl, ht, h with
              | [], _, _, h => exact h
              | b :: t2, hl, ht, h =>
                cases hb2 : inB b 3 with
                | true =>
                  rw [encL_head hb2, lower_cons', dotsT, if_neg (fun e => absurd e.2 (by decide))] at h
                  cases h
                | false =>
                  rw [encL_headn hb2, lower_cons', dotsT] at h
                  rw [lower_cons', lower_cons', dotsT]
                  split at h
                  · rename_i h3
                    rw [if_pos h3]
                    obtain ⟨m, hm, rfl⟩ := Option.map_eq_some_iff.1 h
                    rw [dots_enc f t2 m (by simp at hl; omega) (fun x hx => ht x (by simp [hx])) hm]; rfl
                  · cases h
        · rw [if_neg h2] at h; cases h
theorem dotsN_enc {p : List Int} (hb : Byt p) (h : dotsN p = 0) : dotsN (encL 3 p) = 0 := by
  unfold dotsN at h ⊢
  cases e : dotsL (lowerL (encL 3 p)) with
  | none => rfl
  | some n => rw [dots_enc _ p n (Nat.le_refl _) hb e] at h; exact h
def SegOk (q : List Int) : Prop := Fre 3 q ∧ (47 : Int) ∉ q ∧ (92 : Int) ∉ q ∧ dotsN q = 0
theorem seg_nil : SegOk [] := ⟨fun c hc => by simp at hc, by simp, by simp, rfl⟩
theorem seg_step {acc : List (List Int)} {p : List Int} {b : Bool} (ha : ∀ q ∈ acc, SegOk q) (hp : Byt p) (h1 : (47 : Int) ∉ p) (h2 : (92 : Int) ∉ p) : ∀ q ∈ pathStep acc p b, SegOk q := by
  have hd : ∀ q ∈ acc.dropLast, SegOk q := fun q hq => ha q ((List.dropLast_sublist acc).mem hq)
  have he : ∀ c : Int, (∀ v, 0 ≤ v → v < 16 → hexD v ≠ c) → c ≠ 37 → c ∉ p → c ∉ encL 3 p := fun c hv h37 hc hm => by
    rcases encL_mem hp hm with h | ⟨v, v0, v1, h⟩ | h
    · exact h37 h
    · exact hv v v0 v1 h.symm
    · exact hc h
  intro q hq
  unfold pathStep at hq
  split at hq
  · rename_i h0
    rcases List.mem_append.1 hq with h | h
    · exact ha q h
    · obtain rfl := List.mem_singleton.1 h
      exact ⟨encL_fre (.inr (.inr (.inl rfl))) hp, he 47 (fun v a b => (hexD_not a b).1) (by decide) h1, he 92 (fun v a b => (hexD_not a b).2.1) (by decide) h2, dotsN_enc hp h0⟩
  · split at hq
    · rcases List.mem_append.1 hq with h | h
      · split at h
        · exact hd q h
        · exact ha q h
      · obtain rfl := List.mem_singleton.1 h; exact seg_nil
    · split at hq
      · exact hd q hq
      · exact ha q hq
theorem pathG_ok : ∀ (l : List Int) (acc : List (List Int)) (cur : List Int), (∀ q ∈ acc, SegOk q) → Byt cur → (47 : Int) ∉ cur → (92 : Int) ∉ cur → Byt l → ∀ q ∈ pathG acc cur l, SegOk q
  | [], acc, cur, ha, hc, h1, h2, _ => seg_step ha hc h1 h2
  | d :: t, acc, cur, ha, hc, h1, h2, hl => by
    have ht : Byt t := fun x hx => hl x (by simp [hx])
    rw [pathG]
    split
    · exact pathG_ok t _ [] (seg_step ha hc h1 h2) (fun x hx => by simp at hx) (by simp) (by simp) ht
    · rename_i hd
      rw [not_or] at hd
      refine pathG_ok t acc (cur ++ [d]) ha (fun x hx => ?_) (fun hx => ?_) (fun hx => ?_) ht
      · rcases List.mem_append.1 hx with h | h
        · exact hc x h
        · obtain rfl := List.mem_singleton.1 h; exact hl x (by simp)
      · rcases List.mem_append.1 hx with h | h
        · exact h1 h
        · exact hd.1 (List.mem_singleton.1 h).symm
      · rcases List.mem_append.1 hx with h | h
        · exact h2 h
        · exact hd.2 (List.mem_singleton.1 h).symm
theorem slashL_cons (q : List Int) (qs : List (List Int)) : slashL (q :: qs) = 47 :: (q ++ slashL qs) := by simp [slashL]
theorem step_same {acc : List (List Int)} {q : List Int} {b : Bool} (h : SegOk q) : pathStep acc q b = acc ++ [q] := by
  unfold pathStep
  rw [if_pos h.2.2.2, encL_id h.1]
theorem pathG_back : ∀ (qs : List (List Int)) (q : List Int) (acc : List (List Int)), SegOk q → (∀ x ∈ qs, SegOk x) → pathG acc [] (q ++ slashL qs) = acc ++ q :: qs
  | [], q, acc, h, _ => by
    rw [pathG_seg q acc [] _ fun c hc e => by rcases e with rfl | rfl; exact h.2.1 hc; exact h.2.2.1 hc]
    show pathG acc ([] ++ q) [] = _
    rw [List.nil_append, pathG, step_same h]
  | p :: ps, q, acc, h, hs => by
    rw [pathG_seg q acc [] _ fun c hc e => by rcases e with rfl | rfl; exact h.2.1 hc; exact h.2.2.1 hc, List.nil_append, slashL_cons, pathG, if_pos (.inl rfl), step_same h, pathG_back ps p (acc ++ [q]) (hs p (by simp)) fun x hx => hs x (by simp [hx])]
    simp
theorem pathL_form {s : List Int} (hb : Byt s) : ∃ q qs, pathL s = slashL (q :: qs) ∧ ∀ x ∈ q :: qs, SegOk x := by
  unfold pathL
  have h0 : ([47] : List Int) = slashL ([] :: []) := rfl
  have h1 : ∀ x ∈ ([] : List Int) :: [], SegOk x := fun x hx => by obtain rfl := List.mem_singleton.1 hx; exact seg_nil
  split
  · exact ⟨[], [], h0, h1⟩
  · split
    · exact ⟨[], [], h0, h1⟩
    · rename_i hn
      match hg : pathG [] [] s.tail, hn with
      | q :: qs, _ => exact ⟨q, qs, rfl, fun x hx => pathG_ok s.tail [] [] (fun q hq => by simp at hq) (fun x hx => by simp at hx) (by simp) (by simp) (fun x hx => hb x (List.mem_of_mem_tail hx)) x (by rw [hg]; exact hx)⟩
theorem pathL_segs {q : List Int} {qs : List (List Int)} (h : ∀ x ∈ q :: qs, SegOk x) : pathL (slashL (q :: qs)) = slashL (q :: qs) := by
  have hg : pathG [] [] (slashL (q :: qs)).tail = q :: qs := by
    rw [slashL_cons, List.tail_cons, pathG_back qs q [] (h q (by simp)) fun x hx => h x (by simp [hx])]; rfl
  unfold pathL
  rw [hg, if_neg (by rw [slashL_cons]; simp), if_neg (by simp)]
theorem slash_mem {l : List (List Int)} {c : Int} (h : c ∈ slashL l) : c = 47 ∨ ∃ q ∈ l, c ∈ q := by
  unfold slashL at h
  obtain ⟨q, hq, hc⟩ := List.mem_flatMap.1 h
  rcases List.mem_cons.1 hc with h | h
  · exact .inl h
  · exact .inr ⟨q, hq, h⟩
theorem slash_vis {l : List (List Int)} (h : ∀ x ∈ l, SegOk x) : Vis (slashL l) := fun c hc => by
  rcases slash_mem hc with rfl | ⟨q, hq, hc⟩
  · omega
  · exact Fre.vis (.inr (.inr (.inl rfl))) (h q hq).1 c hc
theorem slash_not {l : List (List Int)} {c : Int} (h : ∀ x ∈ l, SegOk x) (hc : c ∈ ([34, 35, 60, 62, 63, 94, 96, 123, 125] : List Int)) : c ∉ slashL l := fun hm => by
  rcases slash_mem hm with rfl | ⟨q, hq, hm⟩
  · exact absurd hc (by decide)
  · exact Fre.not (h q hq).1 rfl hc hm
end GoD
namespace GoD
open Go Go.Proofs
set_option linter.unusedVariables false
set_option linter.unusedSimpArgs false
set_option maxHeartbeats 4000000
set_option maxRecDepth 100000
structure UrlN (u : Url) : Prop where
  sch : (defaultL u.sch).2 = true
  us : Fre 4 u.us
  pa : Fre 4 u.pa
  ho : hostL u.ho = some u.ho
  po : u.po = -1 ∨ (0 ≤ u.po ∧ u.po ≤ 65535 ∧ u.po ≠ (defaultL u.sch).1)
  path : ∃ q qs, u.path = slashL (q :: qs) ∧ ∀ x ∈ q :: qs, SegOk x
  q : u.q = false → u.qu = []
  qu : Fre 2 u.qu
  f : u.f = false → u.fr = []
  fr : Fre 1 u.fr
theorem Byt.take {l : List Int} (h : Byt l) (n : Nat) : Byt (l.take n) := fun c hc => h c (List.mem_of_mem_take hc)
theorem Byt.drop {l : List Int} (h : Byt l) (n : Nat) : Byt (l.drop n) := fun c hc => h c (List.mem_of_mem_drop hc)
theorem skipL_sub : ∀ {l : List Int} {c : Int}, c ∈ skipL l → c ∈ l
  | [], c, h => h
  | d :: t, c, h => by
    rw [skipL] at h
    split at h
    · exact List.mem_cons_of_mem _ (skipL_sub h)
    · exact h
theorem clean_byt {l : List Int} (h : Byt l) : Byt (cleanL l) := fun c hc => by
  unfold cleanL trimR at hc
  have h1 := (List.mem_filter.1 hc).1
  rw [trimL_eq, trimL_eq] at h1
  exact h c ((List.dropWhile_sublist _).mem (List.mem_reverse.1 ((List.dropWhile_sublist _).mem (List.mem_reverse.1 h1))))
theorem portA_le : ∀ {q : List Int} {n m : Int}, 0 ≤ n → n ≤ 65535 → digitsB 10 q = true → portA n q = some m → 0 ≤ m ∧ m ≤ 65535
  | [], n, m, h0, h1, _, h => by rw [portA] at h; obtain rfl := Option.some.inj h; exact ⟨h0, h1⟩
  | c :: t, n, m, h0, h1, hd, h => by
    rw [digitsB_cons, Bool.and_eq_true, decide_eq_true_eq] at hd
    have hc : 48 ≤ c := by
      have := hd.1
      unfold hexv at this
      split at this
      · omega
      · split at this
        · omega
        · split at this <;> omega
    rw [portA] at h
    split at h
    · cases h
    · exact portA_le (by omega) (by omega) hd.2 h
theorem portV_le {sch q : List Int} {n : Int} (h : portV sch q = some n) : n = -1 ∨ (0 ≤ n ∧ n ≤ 65535 ∧ n ≠ (defaultL sch).1) := by
  unfold portV at h
  split at h
  · exact .inl (Option.some.inj h).symm
  · split at h
    · rename_i hd
      obtain ⟨m, hm, he⟩ := Option.map_eq_some_iff.1 h
      have := portA_le (by omega) (by omega) hd hm
      split at he
      · exact .inl he.symm
      · rename_i hne; subst he; exact .inr ⟨this.1, this.2, hne⟩
    · cases h
theorem authW_ok {sch s ho : List Int} {po : Int} (h : authW sch s [] 0 = (true, ho, po)) : hostL ho = some ho ∧ (po = -1 ∨ (0 ≤ po ∧ po ≤ 65535 ∧ po ≠ (defaultL sch).1)) := by
  unfold authW at h
  split at h
  · cases h
  · cases h
  · rename_i hh n hP
    have e1 : hh = ho := congrArg (fun x => x.2.1) h
    have e2 : n = po := congrArg (fun x => x.2.2) h
    subst e1 e2
    unfold hostP at hP
    obtain ⟨g, hg, hp⟩ := Option.map_eq_some_iff.1 hP
    have e3 : g = hh := congrArg Prod.fst hp
    have e4 := congrArg Prod.snd hp
    subst e3
    refine ⟨host_back hg, ?_⟩
    simp only at e4
    split at e4
    · exact .inl (Option.some.inj e4).symm
    · exact portV_le e4
theorem fre_nil (s : Int) : Fre s [] := fun c hc => by simp at hc
theorem urlL_n {l : List Int} {u : Url} (hb : Byt l) (h : urlL l = some u) : UrlN u := by
  unfold urlL at h
  split at h
  · cases h
  split at h
  rotate_left
  · cases h
  have hcb := clean_byt hb
  generalize cleanL l = s at hcb h
  unfold url1 at h
  split at h
  rotate_left
  · cases h
  rename_i hd
  have hsb : Byt (skipL (s.drop (schemeN s + 1))) := fun c hc => hcb.drop _ c (skipL_sub hc)
  generalize lowerL (s.take (schemeN s)) = sch at hd h
  generalize skipL (s.drop (schemeN s + 1)) = s1 at hsb h
  unfold url2 at h
  have hab := hsb.take (upL [47, 92, 63, 35] s1)
  have hrb := hsb.drop (upL [47, 92, 63, 35] s1)
  generalize s1.take (upL [47, 92, 63, 35] s1) = a at hab h
  generalize s1.drop (upL [47, 92, 63, 35] s1) = r at hrb h
  split at h
  · cases h
  · rename_i ho po hA
    obtain ⟨h1, h2⟩ := authW_ok hA
    obtain rfl := Option.some.inj h
    have hcf : Byt (cutF r) := hrb.take _
    refine ⟨hd, ?_, ?_, h1, h2, pathL_form (hcf.take _), ?_, ?_, ?_, ?_⟩
    · show Fre 4 (userL a [])
      unfold userL
      split
      · exact encL_fre (by omega) ((hab.take _).take _)
      · exact fre_nil 4
    · show Fre 4 (passL a [])
      unfold passL
      split
      · split
        · exact encL_fre (by omega) ((hab.take _).drop _)
        · exact fre_nil 4
      · exact fre_nil 4
    · show decide _ = false → (if _ then _ else _) = _
      intro hq
      rw [if_neg (of_decide_eq_false hq)]
    · show Fre 2 (if _ then _ else _)
      split
      · exact encL_fre (by omega) (hcf.drop _)
      · exact fre_nil 2
    · show decide _ = false → (if _ then _ else _) = _
      intro hq
      rw [if_neg (of_decide_eq_false hq)]
    · show Fre 1 (if _ then _ else _)
      split
      · exact encL_fre (by omega) (hrb.drop _)
      · exact fre_nil 1
theorem url3_back {sch s1 ho a path qu fr : List Int} {po : Int} {q f : Bool} (hp35 : (35 : Int) ∉ path) (hp63 : (63 : Int) ∉ path) (hq35 : (35 : Int) ∉ qu) (hp : pathL path = path) (hq : q = false → qu = []) (hqu : encL 2 qu = qu) (hf : f = false → fr = []) (hfr : encL 1 fr = fr) :
    url3 sch s1 ho po a (path ++ (sufT 63 q qu ++ sufT 35 f fr)) = ⟨sch, userL a [], passL a [], ho, po, path, q, qu, f, fr⟩ := by
  have hX : (35 : Int) ∉ path ++ sufT 63 q qu := fun h => by
    rcases List.mem_append.1 h with h | h
    · exact hp35 h
    · unfold sufT at h
      split at h
      · rcases List.mem_cons.1 h with h | h
        · exact absurd h (by decide)
        · exact hq35 h
      · simp at h
  have key : cutF (path ++ (sufT 63 q qu ++ sufT 35 f fr)) = path ++ sufT 63 q qu ∧ decide (upL [35] (path ++ (sufT 63 q qu ++ sufT 35 f fr)) < (path ++ (sufT 63 q qu ++ sufT 35 f fr)).length) = f ∧ (if upL [35] (path ++ (sufT 63 q qu ++ sufT 35 f fr)) < (path ++ (sufT 63 q qu ++ sufT 35 f fr)).length then encL 1 ((path ++ (sufT 63 q qu ++ sufT 35 f fr)).drop (upL [35] (path ++ (sufT 63 q qu ++ sufT 35 f fr)) + 1)) else []) = fr := by
    unfold cutF
    rw [← List.append_assoc]
    generalize path ++ sufT 63 q qu = X at hX
    cases f with
    | true =>
      have e : upL [35] (X ++ sufT 35 true fr) = X.length := upL_one hX
      rw [e]
      refine ⟨List.take_left, decide_eq_true (by simp [sufT]), ?_⟩
      rw [if_pos (by simp [sufT]), show X ++ sufT 35 true fr = (X ++ [35]) ++ fr by simp [sufT], show X.length + 1 = (X ++ [35]).length by simp, List.drop_left, hfr]
    | false =>
      have e : upL [35] (X ++ sufT 35 false fr) = X.length := by
        rw [show X ++ sufT 35 false fr = X by simp [sufT], upL_one0 hX]
      rw [e, show X ++ sufT 35 false fr = X by simp [sufT], List.take_length, if_neg (by omega), hf rfl]
      exact ⟨rfl, decide_eq_false (by omega), rfl⟩
  obtain ⟨k1, k2, k3⟩ := key
  have key2 : (path ++ sufT 63 q qu).take (upL [63] (path ++ sufT 63 q qu)) = path ∧ decide (upL [63] (path ++ sufT 63 q qu) < (path ++ sufT 63 q qu).length) = q ∧ (if upL [63] (path ++ sufT 63 q qu) < (path ++ sufT 63 q qu).length then encL 2 ((path ++ sufT 63 q qu).drop (upL [63] (path ++ sufT 63 q qu) + 1)) else []) = qu := by
    cases q with
    | true =>
      have e : upL [63] (path ++ sufT 63 true qu) = path.length := upL_one hp63
      rw [e]
      refine ⟨List.take_left, decide_eq_true (by simp [sufT]), ?_⟩
      rw [if_pos (by simp [sufT]), show path ++ sufT 63 true qu = (path ++ [63]) ++ qu by simp [sufT], show path.length + 1 = (path ++ [63]).length by simp, List.drop_left, hqu]
    | false =>
      have e : upL [63] (path ++ sufT 63 false qu) = path.length := by
        rw [show path ++ sufT 63 false qu = path by simp [sufT], upL_one0 hp63]
      rw [e, show path ++ sufT 63 false qu = path by simp [sufT], List.take_length, if_neg (by omega), hq rfl]
      exact ⟨rfl, decide_eq_false (by omega), rfl⟩
  obtain ⟨k4, k5, k6⟩ := key2
  unfold url3
  rw [k1, k2, k3, k4, k5, k6, hp]
def ptT (p : Int) : List Int := if p = -1 then [] else 58 :: decI p
theorem decI_dec {p : Int} (h : 0 ≤ p) : decI p = decD p.toNat := by unfold decI; rw [if_neg (by omega)]
theorem ptT_mem {p c : Int} (h : p = -1 ∨ 0 ≤ p) (hc : c ∈ ptT p) : c = 58 ∨ (48 ≤ c ∧ c ≤ 57) := by
  unfold ptT at hc
  split at hc
  · simp at hc
  · rename_i hn
    rcases List.mem_cons.1 hc with hc | hc
    · exact .inl hc
    · rw [decI_dec (by omega)] at hc; exact .inr (dec_mem hc)
theorem authW_at {sch ho : List Int} {po : Int} (hh : hostL ho = some ho) (hp : po = -1 ∨ (0 ≤ po ∧ po ≤ 65535 ∧ po ≠ (defaultL sch).1)) : authW sch (ho ++ ptT po) [] 0 = (true, ho, po) := by
  have hf := (host_fixed hh).2.2.2
  have h58 : (58 : Int) ∉ ho := forb_not hf (by decide)
  have hP : hostP sch (ho ++ ptT po) = some (ho, some po) := by
    unfold hostP ptT
    by_cases h : po = -1
    · rw [if_pos h, List.append_nil, upL_one0 h58, List.take_length, hh, Option.map_some, if_pos rfl, h]
    · obtain ⟨p0, p1, p2⟩ := hp.resolve_left h
      rw [if_neg h, upL_one h58, List.take_left, hh, Option.map_some, if_neg (by simp), show ho ++ 58 :: decI po = (ho ++ [58]) ++ decI po by simp, show ho.length + 1 = (ho ++ [58]).length by simp, List.drop_left]
      have : portV sch (decI po) = some po := by
        rw [decI_dec p0]
        unfold portV
        rw [if_neg (dec_nil _), if_pos (dec_digits _), portA_dec, if_pos (by omega), Option.map_some, if_neg (by omega)]
        congr 1; omega
      rw [this]
  unfold authW
  rw [hP]
theorem auth_mem {ho : List Int} {po c : Int} (hh : hostL ho = some ho) (hp : po = -1 ∨ 0 ≤ po) (hc : c ∈ ho ++ ptT po) : 33 ≤ c ∧ c ≤ 126 ∧ c ∉ ([47, 92, 63, 35, 64] : List Int) := by
  have hf := (host_fixed hh).2.2.2
  rcases List.mem_append.1 hc with h | h
  · have := forb_vis hf c h
    refine ⟨this.1, this.2, fun hm => ?_⟩
    have : ∀ d ∈ ([47, 92, 63, 35, 64] : List Int), forbB d = true := by decide
    exact forb_not hf (this c hm) h
  · have := ptT_mem hp h
    refine ⟨by omega, by omega, fun hm => ?_⟩
    simp only [List.mem_cons, List.not_mem_nil, or_false] at hm
    omega
def uiT (b c : List Int) : List Int := if b = [] ∧ c = [] then [] else b ++ (if c = [] then [] else 58 :: c) ++ [64]
theorem ui_at {b c r : List Int} (hb : Fre 4 b) (hc : Fre 4 c) (hr : (64 : Int) ∉ r) : restL (uiT b c ++ r) = r ∧ userL (uiT b c ++ r) [] = b ∧ passL (uiT b c ++ r) [] = c := by
  have b58 : (58 : Int) ∉ b := Fre.not hb rfl (by decide)
  unfold uiT
  by_cases h : b = [] ∧ c = []
  · rw [if_pos h, List.nil_append, restL_none hr, userL_none hr, passL_none hr, h.1, h.2]; exact ⟨rfl, rfl, rfl⟩
  · rw [if_neg h, List.append_assoc, show [64] ++ r = 64 :: r from rfl, restL_at hr, userL_at hr, passL_at hr]
    by_cases h2 : c = []
    · rw [if_pos h2, List.append_nil, upL_one0 b58, List.take_length, encL_id hb, if_neg (by omega), h2]; exact ⟨rfl, rfl, rfl⟩
    · rw [if_neg h2, upL_one b58, List.take_left, encL_id hb, if_pos (by simp), show b ++ 58 :: c = (b ++ [58]) ++ c by simp, show b.length + 1 = (b ++ [58]).length by simp, List.drop_left, encL_id hc]
      exact ⟨rfl, rfl, rfl⟩
theorem ui_mem {b c : List Int} {x : Int} (hb : Fre 4 b) (hc : Fre 4 c) (h : x ∈ uiT b c) : 33 ≤ x ∧ x ≤ 126 ∧ x ∉ ([47, 92, 63, 35] : List Int) := by
  have key : ∀ l, Fre 4 l → x ∈ l → 33 ≤ x ∧ x ≤ 126 ∧ x ∉ ([47, 92, 63, 35] : List Int) := fun l hl hx => by
    have := Fre.vis (by omega) hl x hx
    refine ⟨this.1, this.2, fun hm => ?_⟩
    have h4 : ∀ d ∈ ([47, 92, 63, 35] : List Int), d ∈ ([34, 35, 60, 62, 63, 94, 96, 123, 125, 47, 58, 59, 61, 64, 91, 92, 93, 124] : List Int) := by decide
    exact Fre.not hl rfl (h4 x hm) hx
  unfold uiT at h
  split at h
  · simp at h
  · rcases List.mem_append.1 h with h | h
    · rcases List.mem_append.1 h with h | h
      · exact key b hb h
      · split at h
        · simp at h
        · rcases List.mem_cons.1 h with rfl | h
          · exact ⟨by omega, by omega, by decide⟩
          · exact key c hc h
    · obtain rfl := List.mem_singleton.1 h
      exact ⟨by omega, by omega, by decide⟩
theorem text_form (u : Url) : textU u = u.sch ++ 58 :: 47 :: 47 :: ((uiT u.us u.pa ++ (u.ho ++ ptT u.po)) ++ (u.path ++ (sufT 63 u.q u.qu ++ sufT 35 u.f u.fr))) := by
  unfold textU preT midT uiT ptT
  simp
theorem suf_vis {m : Int} {q : Bool} {l : List Int} (hm : 33 ≤ m ∧ m ≤ 126) (h : Vis l) : Vis (sufT m q l) := fun c hc => by
  unfold sufT at hc
  split at hc
  · rcases List.mem_cons.1 hc with rfl | hc
    · exact hm
    · exact h c hc
  · simp at hc
theorem po_or {a d : Int} (h : a = -1 ∨ (0 ≤ a ∧ a ≤ 65535 ∧ a ≠ d)) : a = -1 ∨ 0 ≤ a := h.imp id And.left
theorem au_mem {u : Url} (h : UrlN u) {c : Int} (hc : c ∈ uiT u.us u.pa ++ (u.ho ++ ptT u.po)) : 33 ≤ c ∧ c ≤ 126 ∧ c ∉ ([47, 92, 63, 35] : List Int) := by
  rcases List.mem_append.1 hc with h1 | h1
  · exact ui_mem h.us h.pa h1
  · have := auth_mem h.ho (po_or h.po) h1
    exact ⟨this.1, this.2.1, fun hm => this.2.2 (by simp only [List.mem_cons, List.not_mem_nil, or_false] at hm ⊢; omega)⟩
theorem text_vis {u : Url} (h : UrlN u) : Vis (textU u) := by
  obtain ⟨q, qs, hp, hs⟩ := h.path
  rw [text_form]
  refine Vis.app (scheme_at h.sch []).2.2.1 ?_
  have : Vis ((uiT u.us u.pa ++ (u.ho ++ ptT u.po)) ++ (u.path ++ (sufT 63 u.q u.qu ++ sufT 35 u.f u.fr))) := by
    refine Vis.app (fun c hc => ?_) (Vis.app ?_ (Vis.app ?_ ?_))
    · have := au_mem h hc; exact ⟨this.1, this.2.1⟩
    · rw [hp]; exact slash_vis hs
    · exact suf_vis (by omega) (h.qu.vis (by omega))
    · exact suf_vis (by omega) (h.fr.vis (by omega))
  intro c hc
  rcases List.mem_cons.1 hc with rfl | hc
  · omega
  rcases List.mem_cons.1 hc with rfl | hc
  · omega
  rcases List.mem_cons.1 hc with rfl | hc
  · omega
  exact this c hc
theorem ho_ne {u : Url} (h : UrlN u) : u.ho ≠ [] := (host_fixed h.ho).1
theorem url_back {u : Url} (h : UrlN u) (hl : (textU u).length ≤ 65536) : urlL (textU u) = some u := by
  obtain ⟨q, qs, hp, hs⟩ := h.path
  have hv := text_vis h
  unfold urlL
  rw [if_neg (by omega), utf8_vis hv, if_pos rfl, clean_vis hv, text_form, url1_at h.sch (by have := ho_ne h; simp [this]) (fun c hc => (au_mem h hc).2.2) (.inr ⟨47, q ++ slashL qs ++ (sufT 63 u.q u.qu ++ sufT 35 u.f u.fr), by rw [hp, slashL_cons]; simp, by decide⟩)]
  obtain ⟨e1, e2, e3⟩ := ui_at h.us h.pa (r := u.ho ++ ptT u.po) fun hm => (auth_mem h.ho (po_or h.po) hm).2.2 (by decide)
  rw [e1, authW_at h.ho h.po]
  simp only
  have k35 : (35 : Int) ∉ u.path := by rw [hp]; exact slash_not hs (by decide)
  have k63 : (63 : Int) ∉ u.path := by rw [hp]; exact slash_not hs (by decide)
  rw [url3_back k35 k63 (Fre.not h.qu rfl (by decide)) (by rw [hp, pathL_segs hs]) h.q (encL_id h.qu) h.f (encL_id h.fr), e2, e3]
theorem userL_len (l : List Int) : (userL l []).length ≤ 3 * l.length := by
  unfold userL
  split
  · refine Nat.le_trans (encL_len _ _) ?_; simp; omega
  · simp
theorem passL_len (l : List Int) : (passL l []).length ≤ 3 * l.length := by
  unfold passL
  split
  · split
    · refine Nat.le_trans (encL_len _ _) ?_; simp; omega
    · simp
  · simp
theorem urlL_len2 {l : List Int} {u : Url} (h : urlL l = some u) : u.us.length ≤ 3 * l.length ∧ u.pa.length ≤ 3 * l.length ∧ u.qu.length ≤ 3 * l.length ∧ u.fr.length ≤ 3 * l.length := by
  unfold urlL at h
  split at h
  · cases h
  split at h
  rotate_left
  · cases h
  have hcl := cleanL_len l
  generalize cleanL l = s at hcl h
  unfold url1 at h
  split at h
  rotate_left
  · cases h
  have hsl := skipL_len (s.drop (schemeN s + 1))
  rw [List.length_drop] at hsl
  generalize lowerL (s.take (schemeN s)) = sch at h
  generalize skipL (s.drop (schemeN s + 1)) = s1 at hsl h
  unfold url2 at h
  split at h
  · cases h
  · obtain rfl := Option.some.inj h
    have hz : ∀ (k : Nat) (b : Prop) [Decidable b] (s : Int) (x : List Int), x.length ≤ k → (if b then encL s x else []).length ≤ 3 * k := fun k b _ s x hx => by
      split
      · exact Nat.le_trans (encL_len _ _) (by omega)
      · simp
    refine ⟨Nat.le_trans (userL_len _) (by simp; omega), Nat.le_trans (passL_len _) (by simp; omega), hz _ _ _ _ ?_, hz _ _ _ _ ?_⟩
    · simp [cutF]; omega
    · simp; omega
theorem url_sum {l : List Int} {u : Url} (hb : Byt l) (h : urlL l = some u) (hl : l.length ≤ 3000) : urlSum u ≤ 50000 ∧ (textU u).length ≤ 65536 ∧ -1 ≤ u.po ∧ u.po ≤ 65535 := by
  have hn := urlL_n hb h
  have h1 := urlL_len h
  have h2 := urlL_len2 h
  have h3 := (scheme_at hn.sch []).2.2.2.1
  have hp : -1 ≤ u.po ∧ u.po ≤ 65535 := by rcases hn.po with h | h <;> omega
  have h4 := decI_len hp
  have hs : urlSum u ≤ 50000 := by unfold urlSum; omega
  refine ⟨hs, ?_, hp⟩
  rw [text_form]
  have e1 : (uiT u.us u.pa).length ≤ u.us.length + u.pa.length + 2 := by unfold uiT; split <;> (try split) <;> simp <;> omega
  have e2 : (ptT u.po).length ≤ 11 := by unfold ptT; split <;> simp; omega
  have e3 : ∀ m q l, (sufT m q l).length ≤ l.length + 1 := fun m q l => by unfold sufT; split <;> simp
  have e4 := e3 63 u.q u.qu
  have e5 := e3 35 u.f u.fr
  unfold urlSum at hs
  simp
  omega
end GoD
namespace GoD
open Go Go.Proofs
set_option linter.unusedVariables false
set_option linter.unusedSimpArgs false
set_option maxHeartbeats 8000000
set_option maxRecDepth 100000
def pLawUkC : Ct := fun args h => match args with | [.s l] => some (.b true, h) | _ => none
theorem pLawUk_ok : CtOk Tryz.prog G0 5 pLawUkC := by
  refine ct_plain (n := 1) fol (sound_cons pAwakeU_ok (sound_cons pUParse_ok (sound_cons pUText_ok sound_nil))) (by kernel_rfl) Tryz.func5 rfl fun args h v h' hc r xs H hr hx => ?_
  unfold pLawUkC at hc; split at hc <;> (try split at hc) <;> cases hc
  rename_i l
  obtain ⟨⟨hs, hl⟩, _⟩ := str_of hx
  refine ⟨rfl, rfl, by simp [renV, bndV], ?_⟩
  have hp := parse_eq hs
  by_cases c1 : 3000 < l.length
  · have c1' : (3000 : Int) < l.length := by omega
    simp -implicitDefEqProofs [go_sem, Tryz.f5, pAwakeUC, c1, c1']
  · have c1' : ¬ (3000 : Int) < l.length := by omega
    cases hu : urlL l with
    | none =>
      rw [hu] at hp
      simp -implicitDefEqProofs [go_sem, Tryz.f5, pAwakeUC, pUParseC, hp, c1, c1', urlAns_none]
    | some u =>
      rw [hu] at hp
      have hn := urlL_n hs hu
      obtain ⟨s1, s2, s3, s4⟩ := url_sum hs hu (by omega)
      have hb : parseU (textU u) = some u := by rw [parse_eq (text_vis hn).byt]; exact url_back hn s2
      have hh := ho_ne hn
      obtain ⟨pt, hpt⟩ : ∃ t, u.path = 47 :: t := by
        obtain ⟨q, qs, h1, _⟩ := hn.path
        rw [h1, slashL_cons]
        exact ⟨_, rfl⟩
      clear hn s2 hu
      obtain ⟨a, b, c, d, p, e, q, f, g, k⟩ := u
      simp only at hpt hh s3 s4
      subst hpt
      have s1 : urlSum ⟨a, b, c, d, p, 47 :: pt, q, f, g, k⟩ ≤ 1000000 := by omega
      have hh1 : d.isEmpty = false := by cases d <;> simp at hh ⊢
      simp -implicitDefEqProofs [go_sem, Tryz.f5, pAwakeUC, pUParseC, pUTextC, hp, c1, c1', urlAns_some, s1, s3, s4, hb, hh, hh1]
end GoD
namespace Go.Proofs.YtfpjamnilcjnjaaGreatDoorW.PrintLast
def up (b : Nat → Bool) (i : Nat) : Nat → Bool := fun j => if j = i then true else b j
section
variable {P : Program} {ops : Array Oper} {Q : Exit → Act → World → Prop} {md : Region.Mode} {T : Bool × List (List Nat × List Nat)} {B : List Nat} {O : List Nat} {b : Nat → Bool} {i j n : Nat}
theorem put_comm {a : Act} {s t : Tmp} {u v : Value} (h : s ≠ t) : (a.put (some s) u).put (some t) v = (a.put (some t) v).put (some s) u := by
  simp only [Act.put]
  rw [Array.setIfInBounds_comm _ _ h]
end
end Go.Proofs.YtfpjamnilcjnjaaGreatDoorW.PrintLast
namespace Go.Proofs.YtfpjamnilcjnjaaGreatDoorW.PrintWords
open Go.RowKit
def mx (a b : Int) : Int := if a < b then b else a
def mn (a b : Int) : Int := if b < a then b else a
def shl (k : IntKind) (x y : Int) : Int := k.wrap (x * 2 ^ min y.toNat k.bits)
def shr (k : IntKind) (x y : Int) : Int := x / 2 ^ min y.toNat k.bits
end Go.Proofs.YtfpjamnilcjnjaaGreatDoorW.PrintWords
namespace Go.Proofs.YtfpjamnilcjnjaaGreatDoorW.PrintWords
open Go.RowKit
namespace Kd
def V {α : Type} (d : Kd α) (_e : Nat) (W : World) (_base : Nat) (ok : Nat → Prop) (v : Value) (xs : List α) : Prop := ∃ A c, v = .slice A xs.length c ∧ xs.length ≤ c ∧ F d W ok A xs.length xs
section
variable {α β : Type} {d : Kd α} {e base base' n m c g N' lo hi : Nat} {ok ok' S : Nat → Prop} {w W w1 : World} {A : Option Addr} {ad : Addr} {u v v1 : Value} {xs : List α}
theorem V_mk (hl : xs.length ≤ c) (hf : F d W ok A xs.length xs) : V d e W base ok (.slice A xs.length c) xs := ⟨A, c, rfl, hl, hf⟩
end
end Kd
end Go.Proofs.YtfpjamnilcjnjaaGreatDoorW.PrintWords
namespace Go.Proofs.YtfpjamnilcjnjaaGreatDoorW.PrintWords
theorem Reps.one {α : Type} {R : α → List Value → Prop} {ps : List α} {cs : List Value} {p : α} {v : Value} (hp : R p [v]) (h : Reps R 1 ps cs) : Reps R 1 (p :: ps) (v :: cs) := by
  refine ⟨by simp [h.1], fun j q hq => ?_⟩
  cases j with
  | zero =>
    simp only [List.getElem?_cons_zero, Option.some.injEq] at hq
    subst hq
    simpa using hp
  | succ j =>
    simp only [List.getElem?_cons_succ] at hq
    have h1 := h.2 j q hq
    simpa [Nat.mul_one] using h1
theorem Reps.front {α : Type} {R : α → List Value → Prop} {size : Nat} {ps : List α} {cs c all : List Value} {p : α} (hp : R p c) (hc : c.length = size) (h : Reps R size ps cs) (ha : c ++ cs = all) : Reps R size (p :: ps) all := by
  subst ha
  refine ⟨by rw [List.length_append, hc, h.1, List.length_cons, Nat.succ_mul, Nat.add_comm], fun j q hq => ?_⟩
  cases j with
  | zero =>
    simp only [List.getElem?_cons_zero, Option.some.injEq] at hq
    subst hq
    rw [Nat.zero_mul, List.drop_zero, List.take_append_of_le_length (by omega), List.take_of_length_le (by omega)]
    exact hp
  | succ j =>
    simp only [List.getElem?_cons_succ] at hq
    have h1 := h.2 j q hq
    rw [Nat.succ_mul, List.drop_append, List.drop_of_length_le (by rw [hc]; exact Nat.le_add_left _ _), List.nil_append, hc, Nat.add_sub_cancel]
    exact h1
theorem Reps.c2 {α : Type} {R : α → List Value → Prop} {ps : List α} {cs : List Value} {p : α} {va vb : Value} (hp : R p [va, vb]) (h : Reps R 2 ps cs) : Reps R 2 (p :: ps) (va :: vb :: cs) := Reps.front hp rfl h rfl
theorem Reps.c3 {α : Type} {R : α → List Value → Prop} {ps : List α} {cs : List Value} {p : α} {va vb vc : Value} (hp : R p [va, vb, vc]) (h : Reps R 3 ps cs) : Reps R 3 (p :: ps) (va :: vb :: vc :: cs) := Reps.front hp rfl h rfl
theorem Reps.c4 {α : Type} {R : α → List Value → Prop} {ps : List α} {cs : List Value} {p : α} {va vb vc vd : Value} (hp : R p [va, vb, vc, vd]) (h : Reps R 4 ps cs) : Reps R 4 (p :: ps) (va :: vb :: vc :: vd :: cs) := Reps.front hp rfl h rfl
theorem Reps.c5 {α : Type} {R : α → List Value → Prop} {ps : List α} {cs : List Value} {p : α} {va vb vc vd ve : Value} (hp : R p [va, vb, vc, vd, ve]) (h : Reps R 5 ps cs) : Reps R 5 (p :: ps) (va :: vb :: vc :: vd :: ve :: cs) := Reps.front hp rfl h rfl
theorem Reps.c6 {α : Type} {R : α → List Value → Prop} {ps : List α} {cs : List Value} {p : α} {va vb vc vd ve vf : Value} (hp : R p [va, vb, vc, vd, ve, vf]) (h : Reps R 6 ps cs) : Reps R 6 (p :: ps) (va :: vb :: vc :: vd :: ve :: vf :: cs) := Reps.front hp rfl h rfl
theorem Reps.c7 {α : Type} {R : α → List Value → Prop} {ps : List α} {cs : List Value} {p : α} {va vb vc vd ve vf vg : Value} (hp : R p [va, vb, vc, vd, ve, vf, vg]) (h : Reps R 7 ps cs) : Reps R 7 (p :: ps) (va :: vb :: vc :: vd :: ve :: vf :: vg :: cs) := Reps.front hp rfl h rfl
theorem Reps.c8 {α : Type} {R : α → List Value → Prop} {ps : List α} {cs : List Value} {p : α} {va vb vc vd ve vf vg vh : Value} (hp : R p [va, vb, vc, vd, ve, vf, vg, vh]) (h : Reps R 8 ps cs) : Reps R 8 (p :: ps) (va :: vb :: vc :: vd :: ve :: vf :: vg :: vh :: cs) := Reps.front hp rfl h rfl
theorem Reps.c9 {α : Type} {R : α → List Value → Prop} {ps : List α} {cs : List Value} {p : α} {va vb vc vd ve vf vg vh vi : Value} (hp : R p [va, vb, vc, vd, ve, vf, vg, vh, vi]) (h : Reps R 9 ps cs) : Reps R 9 (p :: ps) (va :: vb :: vc :: vd :: ve :: vf :: vg :: vh :: vi :: cs) := Reps.front hp rfl h rfl
theorem Reps.c10 {α : Type} {R : α → List Value → Prop} {ps : List α} {cs : List Value} {p : α} {va vb vc vd ve vf vg vh vi vj : Value} (hp : R p [va, vb, vc, vd, ve, vf, vg, vh, vi, vj]) (h : Reps R 10 ps cs) : Reps R 10 (p :: ps) (va :: vb :: vc :: vd :: ve :: vf :: vg :: vh :: vi :: vj :: cs) := Reps.front hp rfl h rfl
end Go.Proofs.YtfpjamnilcjnjaaGreatDoorW.PrintWords
