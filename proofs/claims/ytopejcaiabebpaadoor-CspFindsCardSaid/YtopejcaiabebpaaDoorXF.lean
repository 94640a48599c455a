/- csp.Find, and what it calls: slices.IndexFunc with its function, slices.Clone of texts: contracts by hand, in the print's form. -/
import Derived.Test.YtopejcaiabebpaaDoorPAx0
import Derived.Lib.SliceRun
import Derived.Laws.Cover3
namespace Go.Proofs.YtopejcaiabebpaaDoor.PA
open Go.RowKit Go.Proofs.YtopejcaiabebpaaDoorW.PrintWords Go.Proofs.YtopejcaiabebpaaDoorW.PrintLast Go.Proofs.YtopejcaiabebpaaDoorW.PrintMore
set_option linter.unusedVariables false
set_option linter.unusedSimpArgs false
/-- where the first directive of a name stands -/
def IsIdx (l : List S29) (s : ByteArray) (r : Int) : Prop :=
  (r = -1 ∧ ∀ j, j < l.length → (l.getD j z29).f0.toList ≠ s.toList) ∨ (∃ j : Nat, r = j ∧ j < l.length ∧ (l.getD j z29).f0.toList = s.toList ∧ ∀ i, i < j → (l.getD i z29).f0.toList ≠ s.toList)
set_option maxHeartbeats 1000000 in
set_option maxRecDepth 100000 in
theorem index_calls (A0 : Option Addr) (c0 : Nat) (l0 : List S29) (g : Nat) (s : ByteArray) (r : Int) (w : World) (hr0 : Kd.C k29 w A0 l0.length l0) (hc0 : l0.length ≤ c0) (hg : w.cell? ⟨g, 0, none⟩ = some (.string s)) (hr : IsIdx l0 s r) :
    Calls Tryd.prog 28 #[.slice A0 l0.length c0, .func (.func 29) #[] #[.pointer (some ⟨g, 0, none⟩)]] w fun e w' => e = .returned (.int .i64 r) ∧ Below w.heap.size w w' := by
  have hL : l0.length ≤ 9223372036854775807 := hr0.2.1
  have HR0 := Aside0.mk hr0
  have HR := Aside0.mk hr
  have HG := Aside0.mk hg
  clear hr0 hr hg
  go_enter Tryd.func28, Tryd.ntmps28
  go_wp2
  go_loopw [8] (fun v8 w' => ∃ k : Nat, k ≤ l0.length ∧ v8 = .int .i64 k ∧ Aside0 (∀ j, j < k → (l0.getD j z29).f0.toList ≠ s.toList) ∧ Aside0 (Below w.heap.size w w')) (fun v8 _ => l0.length - (intOf v8).toNat)
  case atStart => exact ⟨0, Nat.zero_le _, rfl, ⟨fun j hj => absurd hj (Nat.not_lt_zero j)⟩, ⟨Below.refl _ _⟩⟩
  case round =>
    obtain ⟨k, hk, rfl, HN, HB⟩ := hrel
    by_cases hlt : k < l0.length
    · obtain ⟨ad, A1, c1, rfl, hx0, hx1, hl1, hi1⟩ := at_T29 HR0.out (k : Int) (by omega) (by omega)
      replace hx0 := (HB.out.cell (World.block_lt_of_cell? w _ hx0)).trans hx0
      replace hx1 := (HB.out.cell (World.block_lt_of_cell? w _ hx1)).trans hx1
      have hg := (HB.out.cell (World.block_lt_of_cell? w _ HG.out)).trans HG.out
      clear hl1 hi1
      rw [Int.toNat_natCast] at hx0 hx1
      have hu29 := Tryd.underlying29
      have hg2 : ∀ o, (wr.alloc o).cell? ⟨g, 0, none⟩ = some (.string s) := fun o => by rw [World.cell?_alloc_past _ _ _ (World.block_lt_of_cell? wr _ hg)]; exact hg
      have hrd : rd_T29 l0 (k : Int) = l0.getD k z29 := by unfold rd_T29; rw [Int.toNat_natCast]
      rw [hrd] at hx0 hx1
      clear hrd hg
      obtain ⟨e, hE0⟩ : ∃ e, l0.getD k z29 = e := ⟨_, rfl⟩
      rw [hE0] at hx0 hx1
      have hE := Aside0.mk hE0
      clear hE0
      by_cases heq : e.f0.toList = s.toList
      · have b0 : (e.f0.toList == s.toList) = true := beq_iff_eq.mpr heq
        have hrk : r = (k : Int) := by
          rcases HR.out with ⟨_, h2⟩ | ⟨j, h1, h2, h3, h4⟩
          · exact absurd heq (by have := h2 k hlt; rwa [hE.out] at this)
          · rcases Nat.lt_trichotomy j k with h | h | h
            · exact absurd h3 (HN.out j h)
            · rw [h1, h]
            · exact absurd heq (by have := h4 k h; rwa [hE.out] at this)
        subst hrk
        clear heq
        go_wp2
        go_ret
        exact ⟨rfl, by repeat (first | exact HB.out | apply below_alloc)⟩
      · have b0 : (e.f0.toList == s.toList) = false := beq_eq_false_iff_ne.mpr heq
        have HE := Aside0.mk heq
        clear heq
        go_wp2
        go_roundw
        case rel => exact ⟨k + 1, by omega, by go_num, ⟨fun j hj => by
          by_cases h : j = k
          · subst h; rw [hE.out]; exact HE.out
          · exact HN.out j (by omega)⟩, ⟨by repeat (first | exact HB.out | apply below_alloc)⟩⟩
        case measure => simp [intOf]; omega
    · have hrk : r = -1 := by
        rcases HR.out with ⟨h1, _⟩ | ⟨j, h1, h2, h3, h4⟩
        · exact h1
        · exact absurd h3 (HN.out j (by omega))
      subst hrk
      go_wp2
      go_ret
      exact ⟨rfl, HB.out⟩
def slices_Clone_string_string.f (l0 : List ByteArray) : Option (List ByteArray) := if l0.length < 8796093022208 then some l0 else none
set_option maxHeartbeats 8000000 in
set_option maxRecDepth 100000 in
theorem eql_nil_texts (w : World) (a : Option Addr) (n c : Nat) : (binOp .eql 27 (.slice a n c) (.slice none 0 0)).run Tryd.prog w = .ok (.bool a.isNone) w := Go.Lib.run_eql_slice_nil w 27 9 a n c 0 0 Tryd.underlying27
set_option maxHeartbeats 8000000 in
set_option maxRecDepth 100000 in
theorem slices_Clone_string_string.calls (A0 : Option Addr) (c0 : Nat) (l0 : List ByteArray) (r : List ByteArray) (w : World) (hr0 : Kd.C Kd.string w A0 l0.length l0) (hc0 : l0.length ≤ c0) (h : slices_Clone_string_string.f l0 = some r) :
    Calls Tryd.prog 30 #[.slice A0 l0.length c0] w fun e w' => ∃ v0_ : Value, e = .returned (v0_) ∧ Kd.R Kd.string 9 w' w.heap.size (fun _ => True) v0_ r ∧ Below w.heap.size w w' := by
  unfold slices_Clone_string_string.f at h
  by_cases hl : l0.length < 8796093022208
  · rw [if_pos hl] at h
    obtain rfl := Option.some.inj h
    cases A0 with
    | none =>
      have hn : l0 = [] := by
        by_cases h0 : 0 < l0.length
        · obtain ⟨ad, e, _⟩ := hr0.2.2 h0
          cases e
        · exact List.eq_nil_of_length_eq_zero (by omega)
      subst hn
      have heql := eql_nil_texts
      go_enter Tryd.func30, Tryd.ntmps30
      go_wp2
      go_ret
      exact ⟨_, rfl, Kd.R_nil _ _ _ _ _, Below.refl _ _⟩
    | some ad =>
      have HR0 := Aside0.mk hr0
      have HL := Aside0.mk hl
      clear hr0 hl h
      have heql := eql_nil_texts
      go_enter Tryd.func30, Tryd.ntmps30
      go_wp2_with (first
        | ((with_reducible refine gate_dst (N := 5) rfl ?_); refine Kd.R_lit Kd.string _ 9 ?hg (N := 5) ?hd (xs := ([] : List ByteArray)) (inner := []) (ok := fun _ => True) (okp := fun _ => True) ?hr ?hp (fun _ hk => hk) trivial (Below.refl _ _) (Nat.le_refl _) (by simp) ?_; (case hd => rfl); (case hg => rfl); (case hr => first | (go_simp; done) | (go_simp; rfl)); (case hp => exact (Reps.none _ _)); intro v107 w2 ho3 hb hg_ hnew_; clear hg_ hnew_; have HO1 := Aside0.mk (Kd.R_lower ho3 (Nat.le_refl _)); have HB := Aside0.mk hb; clear hb ho3)
        | ((with_reducible refine gate_builtin (b := .append) (xs := #[.tmp 5, .tmp 6]) rfl ?_); at_builtin; refine Kd.R_append_rows Kd.string (w0 := w) w.heap.size rfl (.tmp 5) (.tmp 6) 27 9 (.string ⟨#[]⟩) 16 rfl Tryd.underlying27 info9 rfl (by decide) (by omega) v107 ([] : List ByteArray) l0 _ _ _ (fun _ => True) (fun _ => False) rfl rfl ?aO ?aR (fun _ _ h => h) (fun _ h => h.elim) ?aF ?aB ?aS ?aL ?_; (case aR => repeat (first | exact (Kd.C_below HR0.out HB.out) | (with_reducible refine Kd.C_alloc ?_ _) | (with_reducible refine Kd.C_drewN ?_ _) | (with_reducible refine Kd.C_drew ?_))); (case aB => exact HB.out); (case aF => exact (fun _ _ => trivial)); (case aO => exact HO1.out); (case aS => exact (below_size HB.out)); (case aL => have := HL.out; simp; omega); intro v103 w5 ho hb hg hat; have HO2 := Aside0.mk ho; have HB2 := Aside0.mk hb; clear ho hb hg hat))
      go_ret
      exact ⟨_, rfl, HO2.out, HB2.out⟩
  · rw [if_neg hl] at h
    cases h
/-- the first directive of the first name that is there -/
def findD (l : List S29) : List ByteArray → Option S29
  | [] => none
  | n :: ns => match l.find? (fun d => d.f0.toList == n.toList) with
    | some d => some d
    | none => findD l ns
def csp_Find.f (l0 : List S29) (l1 : List ByteArray) : Option (ByteArray × List ByteArray × Bool) :=
  match findD l0 l1 with
  | none => some (⟨#[]⟩, [], false)
  | some d => if d.f1.length < 8796093022208 then some (d.f0, d.f1, true) else none
/-- none of the first k names is there -/
def NoneOf (l : List S29) (ns : List ByteArray) (k : Nat) : Prop := ∀ i, i < k → ∀ j, j < l.length → (l.getD j z29).f0.toList ≠ (ns.getD i ByteArray.empty).toList
theorem find_none {l : List S29} {n : ByteArray} (h : ∀ j, j < l.length → (l.getD j z29).f0.toList ≠ n.toList) : l.find? (fun d => d.f0.toList == n.toList) = none := by
  rw [List.find?_eq_none]
  intro d hd he
  obtain ⟨j, hj, rfl⟩ := List.getElem_of_mem hd
  have := h j hj
  rw [List.getD_eq_getElem?_getD, List.getElem?_eq_getElem hj] at this
  exact this (beq_iff_eq.mp he)
theorem find_at {l : List S29} {n : ByteArray} {j : Nat} (hj : j < l.length) (he : (l.getD j z29).f0.toList = n.toList) (h : ∀ i, i < j → (l.getD i z29).f0.toList ≠ n.toList) : l.find? (fun d => d.f0.toList == n.toList) = some (l.getD j z29) := by
  rw [List.getD_eq_getElem?_getD, List.getElem?_eq_getElem hj] at he ⊢
  rw [List.find?_eq_some_iff_getElem]
  refine ⟨beq_iff_eq.mpr he, j, hj, rfl, fun i hi => ?_⟩
  have := h i hi
  rw [List.getD_eq_getElem?_getD, List.getElem?_eq_getElem (by omega)] at this
  simpa using this
theorem idx_any (l : List S29) (n : ByteArray) : ∃ r, IsIdx l n r := by
  by_cases h : ∃ j, j < l.length ∧ (l.getD j z29).f0.toList = n.toList
  · obtain ⟨j, hj, he⟩ := h
    have : ∃ m, m < l.length ∧ (l.getD m z29).f0.toList = n.toList ∧ ∀ i, i < m → (l.getD i z29).f0.toList ≠ n.toList := by
      induction j using Nat.strongRecOn with
      | ind j ih =>
        by_cases h2 : ∃ i, i < j ∧ (l.getD i z29).f0.toList = n.toList
        · obtain ⟨i, h3, h4⟩ := h2
          exact ih i h3 (by omega) h4
        · exact ⟨j, hj, he, fun i h3 h4 => h2 ⟨i, h3, h4⟩⟩
    obtain ⟨m, h1, h2, h3⟩ := this
    exact ⟨m, .inr ⟨m, rfl, h1, h2, h3⟩⟩
  · exact ⟨-1, .inl ⟨rfl, fun j hj he => h ⟨j, hj, he⟩⟩⟩
theorem findD_skip {l : List S29} {ns : List ByteArray} : ∀ {k : Nat}, k ≤ ns.length → NoneOf l ns k → findD l ns = findD l (ns.drop k)
  | 0, _, _ => rfl
  | k + 1, hk, h => by
    cases ns with
    | nil => simp at hk
    | cons n ns =>
      have h0 : l.find? (fun d => d.f0.toList == n.toList) = none := find_none (fun j hj => h 0 (by omega) j hj)
      rw [show findD l (n :: ns) = findD l ns by rw [findD, h0]]
      exact findD_skip (k := k) (by simpa using hk) (fun i hi j hj => h (i + 1) (by omega) j hj)
theorem bcell_at {B : Nat} {W w1 : World} (hb : Below B W w1) : (∀ b o, b < B → w1.cell? ⟨b, o, none⟩ = W.cell? ⟨b, o, none⟩) ∧ (∀ b o, b < B → w1.frozen? ⟨b, o, none⟩ = W.frozen? ⟨b, o, none⟩) :=
  ⟨fun b o h => hb.cell (p := ⟨b, o, none⟩) h, fun b o h => hb.frozen (p := ⟨b, o, none⟩) h⟩
set_option maxHeartbeats 8000000 in
set_option maxRecDepth 100000 in
theorem csp_Find.calls (A0 : Option Addr) (c0 : Nat) (l0 : List S29) (A1 : Option Addr) (c1 : Nat) (l1 : List ByteArray) (r1 : ByteArray) (r2 : List ByteArray) (r3 : Bool) (w : World) (hr0 : Kd.C k29 w A0 l0.length l0) (hc0 : l0.length ≤ c0) (hr1 : Kd.C Kd.string w A1 l1.length l1) (hc1 : l1.length ≤ c1) (h : csp_Find.f l0 l1 = some (r1, r2, r3)) :
    Calls Tryd.prog 15 #[.slice A0 l0.length c0, .slice A1 l1.length c1] w fun e w' => ∃ v1_ : Value, e = .returned (.tuple #[.agg #[.string r1, v1_], .bool r3]) ∧ Kd.R Kd.string 9 w' w.heap.size (fun _ => True) v1_ r2 ∧ Below w.heap.size w w' := by
  have hL : l1.length ≤ 9223372036854775807 := hr1.2.1
  have HR0 := Aside0.mk hr0
  have HR1 := Aside0.mk hr1
  have H := Aside0.mk h
  clear hr0 hr1 h
  have hu29 := Tryd.underlying29
  have hmf : ∀ (fn : Fn) (first cap : Array Value) (w : World), (Instr.makeFunc fn first cap).run Tryd.prog w = .ok (.func fn first cap) w := fun _ _ _ _ => rfl
  go_enter Tryd.func15, Tryd.ntmps15
  go_wp2
  go_loopw [12] (fun v12 w' => ∃ k : Nat, k ≤ l1.length ∧ v12 = .int .i64 k ∧ Aside0 (NoneOf l0 l1 k) ∧ Aside0 (Below (w.heap.size + 1) (w.alloc (.cells #[.string ⟨#[]⟩, .slice none 0 0] 29)) w')) (fun v12 _ => l1.length - (intOf v12).toNat)
  case atStart => exact ⟨0, Nat.zero_le _, rfl, ⟨fun i hi => absurd hi (Nat.not_lt_zero i)⟩, ⟨Below.refl _ _⟩⟩
  case round =>
    obtain ⟨k, hk, rfl, HN, HB⟩ := hrel
    have HBw : Below w.heap.size w wr := (below_alloc (Below.refl _ _) _).trans (HB.out.mono (Nat.le_succ _))
    by_cases hlt : k < l1.length
    · obtain ⟨ad, rfl, hx⟩ := Kd.at_string HR1.out (k : Int) (by omega) (by omega)
      rw [Int.toNat_natCast] at hx
      replace hx := (HBw.cell (World.block_lt_of_cell? w _ hx)).trans hx
      have hrd : rdOf ByteArray.empty l1 (k : Int) = l1.getD k ByteArray.empty := by unfold rdOf; rw [Int.toNat_natCast]
      rw [hrd] at hx
      clear hrd
      obtain ⟨n, hn0⟩ : ∃ n, l1.getD k ByteArray.empty = n := ⟨_, rfl⟩
      rw [hn0] at hx
      have hn := Aside0.mk hn0
      clear hn0
      have HBW := Aside0.mk HBw
      clear HBw
      obtain ⟨r, hr⟩ := idx_any l0 n
      have HI := Aside0.mk hr
      clear hr
      go_wp2_with fail
      refine (index_calls A0 c0 l0 wr.heap.size n r _ (Kd.C_alloc (Kd.C_below HR0.out HBW.out) _) hc0 (by rw [World.cell?_alloc_at _ _ _ _ rfl]; rfl) HI.out).mono ?_
      rintro e w1 ⟨rfl, hb⟩
      have hs1 : w.heap.size + 1 ≤ wr.heap.size := by have := HB.out.size; simpa using this
      have hs2 : wr.heap.size + 1 ≤ w1.heap.size := by have := hb.size; simpa using this
      have HB1 : Aside0 (Below (w.heap.size + 1) (w.alloc (.cells #[.string ⟨#[]⟩, .slice none 0 0] 29)) w1) := ⟨(HB.out.alloc hs1 _).trans (hb.mono (by simp; omega))⟩
      have HBW1 : Aside0 (Below w.heap.size w w1) := ⟨(below_alloc (Below.refl _ _) _).trans (HB1.out.mono (Nat.le_succ _))⟩
      clear hb HB HBW hx
      rcases HI.out with ⟨rfl, hno⟩ | ⟨j, rfl, hj, he, hno⟩
      · have HNO := Aside0.mk hno
        clear hno
        go_wp2
        go_roundw
        case rel => exact ⟨k + 1, by omega, by go_num, ⟨fun i hi j hj => by
          by_cases h : i = k
          · subst h; rw [hn.out]; exact HNO.out j hj
          · exact HN.out i (by omega) j hj⟩, HB1⟩
        case measure => simp [intOf]; omega
      · have HNO := Aside0.mk hno
        have HE0 := Aside0.mk he
        clear hno he
        obtain ⟨ad2, A2, c2, rfl, hx0, hx1, hl2, hi2⟩ := at_T29 HR0.out (j : Int) (by omega) (by omega)
        rw [Int.toNat_natCast] at hx0 hx1
        have hrd : rd_T29 l0 (j : Int) = l0.getD j z29 := by unfold rd_T29; rw [Int.toNat_natCast]
        rw [hrd] at hx0 hx1 hl2 hi2
        replace hx0 := (HBW1.out.cell (World.block_lt_of_cell? w _ hx0)).trans hx0
        replace hx1 := (HBW1.out.cell (World.block_lt_of_cell? w _ hx1)).trans hx1
        obtain ⟨d, hd0⟩ : ∃ d, l0.getD j z29 = d := ⟨_, rfl⟩
        rw [hd0] at hx0 hx1 hl2 hi2
        have hd := Aside0.mk hd0
        have HI2 := Aside0.mk hi2
        have HL2 := Aside0.mk hl2
        clear hd0 hrd hi2 hl2
        have hf : findD l0 l1 = some d := by
          rw [findD_skip (Nat.le_of_lt hlt) HN.out, List.drop_eq_getElem_cons hlt, findD]
          have e1 : l1[k] = n := by have := hn.out; rwa [List.getD_eq_getElem?_getD, List.getElem?_eq_getElem hlt] at this
          rw [e1, find_at hj HE0.out HNO.out, hd.out]
        have hh := H.out
        rw [csp_Find.f, hf] at hh
        dsimp only at hh
        by_cases hl : d.f1.length < 8796093022208
        case neg => rw [if_neg hl] at hh; cases hh
        rw [if_pos hl] at hh
        obtain ⟨rfl, rfl, rfl⟩ : d.f0 = r1 ∧ d.f1 = r2 ∧ true = r3 := by injection hh with hh; injection hh with h1 h2; injection h2 with h2 h3; exact ⟨h1, h2, h3⟩
        have HCL := Aside0.mk (show slices_Clone_string_string.f d.f1 = some d.f1 by rw [slices_Clone_string_string.f, if_pos hl])
        clear hh hf hl HE0 HNO H HN
        obtain ⟨hcw, hfw⟩ := bcell_at HB1.out
        have hc0_ := hcw w.heap.size 0 (by omega)
        have hc1_ := hcw w.heap.size 1 (by omega)
        have hf0_ := hfw w.heap.size 0 (by omega)
        have hf1_ := hfw w.heap.size 1 (by omega)
        have HW0 : Aside0 (w1.cell? ⟨w.heap.size, 0, none⟩ = some (.string ⟨#[]⟩) ∧ w1.cell? ⟨w.heap.size, 1, none⟩ = some (.slice none 0 0) ∧ w1.frozen? ⟨w.heap.size, 0, none⟩ = false ∧ w1.frozen? ⟨w.heap.size, 1, none⟩ = false) := ⟨by
          rw [hc0_, hc1_, hf0_, hf1_]
          refine ⟨by rw [World.cell?_alloc_at _ _ _ _ rfl]; rfl, by rw [World.cell?_alloc_at _ _ _ _ rfl]; rfl, World.frozen?_alloc_at _ _ _ _ rfl, World.frozen?_alloc_at _ _ _ _ rfl⟩⟩
        clear hcw hfw hc0_ hc1_ hf0_ hf1_
        go_wp2_with fail
        refine (slices_Clone_string_string.calls A2 c2 d.f1 d.f1 _ (Kd.C_alloc (Kd.C_below HI2.out HBW1.out) _) HL2.out HCL.out).mono ?_
        rintro e w2 ⟨v, rfl, ho, hb2⟩
        obtain ⟨Ao, co, rfl⟩ := Kd.R_slice ho
        have HO := Aside0.mk ho
        have HB2 := Aside0.mk hb2
        obtain ⟨hcw, hfw⟩ := bcell_at hb2
        have hz : w1.heap.size + 1 ≤ w2.heap.size := by have := hb2.size; simpa using this
        have hsz : w.heap.size + 1 ≤ w1.heap.size := by omega
        have k0 := (hcw w.heap.size 0 (by simp; omega)).trans ((World.cell?_alloc_past (w := w1) _ _ _ (by show w.heap.size < w1.heap.size; omega)).trans HW0.out.1)
        have k1 := (hcw w.heap.size 1 (by simp; omega)).trans ((World.cell?_alloc_past (w := w1) _ _ _ (by show w.heap.size < w1.heap.size; omega)).trans HW0.out.2.1)
        have f0 := (hfw w.heap.size 0 (by simp; omega)).trans ((World.frozen?_alloc_past (w := w1) _ _ _ (by show w.heap.size < w1.heap.size; omega)).trans HW0.out.2.2.1)
        have f1 := (hfw w.heap.size 1 (by simp; omega)).trans ((World.frozen?_alloc_past (w := w1) _ _ _ (by show w.heap.size < w1.heap.size; omega)).trans HW0.out.2.2.2)
        have m0 := (hcw w1.heap.size 0 (by simp)).trans (World.cell?_alloc_at (w := w1) _ _ _ _ rfl)
        have m1 := (hcw w1.heap.size 1 (by simp)).trans (World.cell?_alloc_at (w := w1) _ _ _ _ rfl)
        have mf := (hfw w1.heap.size 1 (by simp)).trans (World.frozen?_alloc_at (w := w1) _ _ _ _ rfl)
        simp at m0 m1
        clear hcw hfw
        have hne : w.heap.size ≠ w1.heap.size := by omega
        have hne2 : w1.heap.size ≠ w.heap.size := by omega
        clear hb2 ho
        go_wp2
        have hBW : Below w.heap.size w w2 := (HBW1.out.alloc (by omega) _).trans (HB2.out.mono (by simp; omega))
        have hR := Kd.R_bound HO.out
        have hz1 : (w1.alloc (.cells #[.string d.f0, .slice A2 d.f1.length c2] 29)).heap.size = w1.heap.size + 1 := by simp
        rw [hz1] at hR
        refine bodyPost_ret (v := .tuple #[.agg #[.string d.f0, .slice Ao d.f1.length co], .bool true]) ?_ rfl ⟨_, rfl, ?_, ?_⟩
        · simp [results, Tryd.results15, go_sem, k0, k1, f0, f1, hne, hne2]
        · exact Kd.R_mono (Kd.R_lower (Kd.R_far (Kd.R_far (Kd.R_far hR (fun q hq => by have h := hq.2.1; show q ≠ w1.heap.size; omega) _) (fun q hq => by have h := hq.2.1; show q ≠ w.heap.size; omega) _) (fun q hq => by have h := hq.2.1; show q ≠ w.heap.size; omega) _) (by omega)) (fun _ _ => trivial)
        · exact ((hBW.setCell (by show w.heap.size ≤ w1.heap.size; omega) _).setCell (Nat.le_refl _) _).setCell (Nat.le_refl _) _
    · have hke : k = l1.length := by omega
      subst hke
      have hf : findD l0 l1 = none := by rw [findD_skip (Nat.le_refl _) HN.out, List.drop_length, findD]
      have hh := H.out
      rw [csp_Find.f, hf] at hh
      obtain ⟨rfl, rfl, rfl⟩ : ⟨#[]⟩ = r1 ∧ [] = r2 ∧ false = r3 := by injection hh with hh; injection hh with h1 h2; injection h2 with h2 h3; exact ⟨h1, h2, h3⟩
      clear hh hf H HN
      obtain ⟨hcw, hfw⟩ := bcell_at HB.out
      have k0 := (hcw w.heap.size 0 (by omega)).trans (World.cell?_alloc_at (w := w) _ _ _ _ rfl)
      have k1 := (hcw w.heap.size 1 (by omega)).trans (World.cell?_alloc_at (w := w) _ _ _ _ rfl)
      have f0 := (hfw w.heap.size 0 (by omega)).trans (World.frozen?_alloc_at (w := w) _ _ _ _ rfl)
      have f1 := (hfw w.heap.size 1 (by omega)).trans (World.frozen?_alloc_at (w := w) _ _ _ _ rfl)
      simp at k0 k1
      clear hcw hfw
      have HBW := Aside0.mk HBw
      clear HBw
      go_wp2
      refine bodyPost_ret (v := .tuple #[.agg #[.string ⟨#[]⟩, .slice none 0 0], .bool false]) ?_ rfl ⟨_, rfl, Kd.R_nil _ _ _ _ _, ?_⟩
      · simp [results, Tryd.results15, go_sem, k0, k1, f0, f1]
      · exact (HBW.out.setCell (Nat.le_refl _) _).setCell (Nat.le_refl _) _
end Go.Proofs.YtopejcaiabebpaaDoor.PA
