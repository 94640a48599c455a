import Derived.Test.YtcaaebjjgbcjpaaGreatDoorGM
import Derived.Test.YtcaaebjjgbcjpaaGreatDoorLU
import Derived.Deep.SlicePairs
/-! EvalAsks's answer, told to its row. -/
set_option maxRecDepth 100000
namespace Go
section
variable {H : Type} {enc : TypeId × Value → H} {P : Program} {w : World} {base : Nat} {spare : Nat → Bool} {held : Bool}
theorem trod_struct8 {t : TypeId} {f0 f1 f2 f3 f4 f5 f6 f7 : Field} {fuel : Nat} {cs : List Value} {x : DataW H × List MemPlace} (ht : P.underlying t = some (.struct #[f0, f1, f2, f3, f4, f5, f6, f7])) (h : DataW.trod enc P w base spare held fuel t cs = some x) :
    ∃ y0 y1 y2 y3 y4 y5 y6 y7 n, x = (.agg [y0.1, y1.1, y2.1, y3.1, y4.1, y5.1, y6.1, y7.1], y0.2 ++ (y1.2 ++ (y2.2 ++ (y3.2 ++ (y4.2 ++ (y5.2 ++ (y6.2 ++ y7.2))))))) ∧ cs.length = P.cellsOf t ∧ DataW.trod enc P w base spare held n f0.type ((cs.drop f0.offset).take (P.cellsOf f0.type)) = some y0 ∧ DataW.trod enc P w base spare held n f1.type ((cs.drop f1.offset).take (P.cellsOf f1.type)) = some y1 ∧ DataW.trod enc P w base spare held n f2.type ((cs.drop f2.offset).take (P.cellsOf f2.type)) = some y2 ∧ DataW.trod enc P w base spare held n f3.type ((cs.drop f3.offset).take (P.cellsOf f3.type)) = some y3 ∧ DataW.trod enc P w base spare held n f4.type ((cs.drop f4.offset).take (P.cellsOf f4.type)) = some y4 ∧ DataW.trod enc P w base spare held n f5.type ((cs.drop f5.offset).take (P.cellsOf f5.type)) = some y5 ∧ DataW.trod enc P w base spare held n f6.type ((cs.drop f6.offset).take (P.cellsOf f6.type)) = some y6 ∧ DataW.trod enc P w base spare held n f7.type ((cs.drop f7.offset).take (P.cellsOf f7.type)) = some y7 := by
  obtain ⟨xs, n, _, rfl, hl, hlen, hf⟩ := DataW.trod_struct ht h
  match xs, hlen with
  | [y0, y1, y2, y3, y4, y5, y6, y7], _ => exact ⟨y0, y1, y2, y3, y4, y5, y6, y7, n, by simp, hl, by simpa using hf 0 f0 rfl, by simpa using hf 1 f1 rfl, by simpa using hf 2 f2 rfl, by simpa using hf 3 f3 rfl, by simpa using hf 4 f4 rfl, by simpa using hf 5 f5 rfl, by simpa using hf 6 f6 rfl, by simpa using hf 7 f7 rfl⟩
end
theorem sized_part {H : Type} {P : Program} {ts : List TypeId} {ds : List (DataW H)} (h : (DataW.weightsEach P ts ds).all (· ≤ reachBytes) = true) {j i : Nat} {t : TypeId} {d : DataW H} {xs : List (DataW H)} {fs : Array Field} {u : TypeId} (ht : ts[j]? = some t) (hd : ds[j]? = some (.agg xs)) (hu : P.underlying t = some (.struct fs)) (hi : (fs.toList.map (·.type))[i]? = some u) (hx : xs[i]? = some d) : ∀ n ∈ DataW.weights P u d, n ≤ 140737488351232 := by
  intro n hn
  have := List.all_eq_true.1 h n (DataW.weights_mem_each ht hd n (by
    simp only [DataW.weights, hu]
    exact DataW.weights_mem_each hi hx n hn))
  have hr : reachBytes = 140737488351232 := rfl
  rw [← hr]
  simpa using this
end Go
namespace GoD
open Go Go.Proofs Go.RowKit
set_option linter.unusedVariables false
set_option linter.unusedSimpArgs false
def fcells : List (List Int × List Int) → List V
  | [] => []
  | f :: t => .s f.1 :: .s f.2 :: fcells t
theorem fcells_len : ∀ fs, (fcells fs).length = fs.length * 2
  | [] => rfl
  | f :: t => by simp [fcells, fcells_len t]; omega
theorem fldsV_cells : ∀ fs, fldsV (fcells fs) = some fs
  | [] => rfl
  | f :: t => by simp [fcells, fldsV, fldsV_cells t]
theorem fldsAt_arg (fs : List (List Int × List Int)) : fldsAt [⟨1, false, fcells fs⟩] 0 0 fs.length = some fs := by
  have e : ldN (fcells fs) 0 (fs.length * 2) = some (fcells fs) := by
    unfold ldN
    rw [if_pos (by rw [fcells_len]; omega), List.drop_zero, ← fcells_len, List.take_length]
  show (match ldN (fcells fs) 0 (fs.length * 2) with | some l => fldsV l | none => none) = _
  rw [e]
  exact fldsV_cells fs
theorem fcells_get : ∀ {fs : List (List Int × List Int)} {j : Nat} {v : V}, (fcells fs)[j]? = some v → ∃ i, ∃ (hi : i < fs.length), (j = i * 2 ∧ v = .s fs[i].1) ∨ (j = i * 2 + 1 ∧ v = .s fs[i].2)
  | [], j, v, h => by simp [fcells] at h
  | f :: t, 0, v, h => ⟨0, by simp, .inl ⟨rfl, by simpa [fcells] using h.symm⟩⟩
  | f :: t, 1, v, h => ⟨0, by simp, .inr ⟨rfl, by simpa [fcells] using h.symm⟩⟩
  | f :: t, j + 2, v, h => by
    obtain ⟨i, hi, h1⟩ := fcells_get (fs := t) (j := j) (v := v) (by simpa [fcells] using h)
    refine ⟨i + 1, by simp; omega, ?_⟩
    rcases h1 with ⟨rfl, rfl⟩ | ⟨rfl, rfl⟩
    · exact .inl ⟨by omega, by simp⟩
    · exact .inr ⟨by omega, by simp⟩
theorem wAll {H : Type} {P : Program} {e : TypeId} : ∀ {ds : List (DataW H)} {d : DataW H}, d ∈ ds → ∀ n ∈ d.weights P e, n ∈ DataW.weightsAll P e ds
  | [], _, h, _, _ => by cases h
  | d0 :: r, d, h, n, hn => by
    rw [DataW.weightsAll]
    rcases List.mem_cons.1 h with rfl | h
    · exact List.mem_append.2 (.inl hn)
    · exact List.mem_append.2 (.inr (wAll h n hn))
def strOf : Value → List Int | .string s => ofBA s | _ => []
theorem fields_arg {H : Type} {enc : TypeId × Value → H} {P : Program} {W : World} (hg : GT W) {t e : TypeId} {f0 f1 : Field} {fuel : Nat} {cs : List Value} {x : DataW H × List MemPlace} (ht : P.underlying t = some (.slice e)) (he : P.underlying e = some (.struct #[f0, f1]))
    (ce : P.cellsOf e = 2) (o0 : f0.offset = 0) (o1 : f1.offset = 1) (c0 : P.cellsOf f0.type = 1) (c1 : P.cellsOf f1.type = 1) (u0 : P.underlying f0.type = some .string) (u1 : P.underlying f1.type = some .string)
    (be : P.bytesOf e = 32) (h : DataW.trod enc P W 0 (fun _ => true) true fuel t cs = some x) (hwt : ∀ k ∈ DataW.weights P t x.1, k ≤ 140737488351232) :
    ∃ (fs : List (List Int × List Int)) (v : Value) (y : Option Loc), cs = [v] ∧ HR G0 [y] [⟨1, false, fcells fs⟩] W.heap ∧ R [y] (.sl 0 0 fs.length 2) v ∧ (∀ f ∈ fs, f.1.length ≤ 281474976710656 ∧ f.2.length ≤ 281474976710656) ∧ fs.length ≤ 281474976710656 := by
  rcases Go.Deep.open_slice_pairs ht he ce o0 o1 c0 c1 h with ⟨rfl, _⟩ | ⟨a, len, cap, m, n, V0, V1, D0, D1, P0, P1, rfl, _, hl, hm, hmm, rfl, hx⟩
  · exact ⟨[], _, none, rfl, HR_one hg (.inl rfl), .sn 0 2 rfl, by simp, by simp⟩
  · have hmm' : m = cap := by simpa using hmm
    subst hmm'
    have hwt2 : DataW.weights P t (.slice ((List.range len).map fun i => .agg [D0 i, D1 i]) ((List.range (m - len)).map fun j => .agg [D0 (len + j), D1 (len + j)])) = (((List.range len).map fun i => DataW.agg [D0 i, D1 i]).length + ((List.range (m - len)).map fun j => DataW.agg [D0 (len + j), D1 (len + j)]).length) * P.bytesOf e :: (DataW.weightsAll P e ((List.range len).map fun i => DataW.agg [D0 i, D1 i]) ++ DataW.weightsAll P e ((List.range (m - len)).map fun j => DataW.agg [D0 (len + j), D1 (len + j)])) := by
      rw [DataW.weights, ht]
    simp only at hwt
    rw [hwt2] at hwt
    have hmx : m ≤ 281474976710656 := by
      have := hwt _ (List.mem_cons_self)
      rw [be] at this
      simp at this
      omega
    have str : ∀ i, i < len → ∃ s0 s1 : ByteArray, V0 i = .string s0 ∧ V1 i = .string s1 ∧ s0.size ≤ 281474976710656 ∧ s1.size ≤ 281474976710656 := fun i hi => by
      obtain ⟨_, _, h3, h4⟩ := hx i (by omega)
      obtain ⟨s0, e0, q0, w0⟩ := DataW.trod_string u0 h3
      obtain ⟨s1, e1, q1, w1⟩ := DataW.trod_string u1 h4
      have d0 : D0 i = .lit (.string s0.data.toList) := (Prod.mk.inj q0).1
      have d1 : D1 i = .lit (.string s1.data.toList) := (Prod.mk.inj q1).1
      have hmem : DataW.agg [D0 i, D1 i] ∈ (List.range len).map fun i => DataW.agg [D0 i, D1 i] := List.mem_map.2 ⟨i, List.mem_range.2 hi, rfl⟩
      have hag : DataW.weights P e (.agg [D0 i, D1 i]) = DataW.weightsEach P [f0.type, f1.type] [D0 i, D1 i] := by rw [DataW.weights, he]; rfl
      have b0 := hwt s0.data.toList.length (List.mem_cons_of_mem _ (List.mem_append.2 (.inl (wAll hmem _ (by
        rw [hag]; exact DataW.weights_mem_each (j := 0) rfl rfl _ (by rw [d0]; simp [DataW.weights]))))))
      have b1 := hwt s1.data.toList.length (List.mem_cons_of_mem _ (List.mem_append.2 (.inl (wAll hmem _ (by
        rw [hag]; exact DataW.weights_mem_each (j := 1) rfl rfl _ (by rw [d1]; simp [DataW.weights]))))))
      rw [Array.length_toList] at b0 b1
      have c0 : s0.size ≤ 140737488351232 := b0
      have c1 : s1.size ≤ 140737488351232 := b1
      exact ⟨s0, s1, by simpa using e0, by simpa using e1, by omega, by omega⟩
    obtain ⟨fs, hfs⟩ : ∃ fs, fs = (List.range len).map fun i => (strOf (V0 i), strOf (V1 i)) := ⟨_, rfl⟩
    have hfl : fs.length = len := by rw [hfs]; simp
    have hfg : ∀ i (hi : i < fs.length), fs[i] = (strOf (V0 i), strOf (V1 i)) := fun i hi => by subst hfs; simp
    have hlen : ∀ f ∈ fs, f.1.length ≤ 281474976710656 ∧ f.2.length ≤ 281474976710656 := fun f hf => by
      obtain ⟨i, hi, rfl⟩ := List.getElem_of_mem hf
      obtain ⟨s0, s1, e0, e1, w0, w1⟩ := str i (by omega)
      rw [hfg i hi, e0, e1]
      exact ⟨(str_ofBA w0).2, (str_ofBA w1).2⟩
    rcases Nat.eq_zero_or_pos m with hz | hz
    · subst hz
      obtain rfl : len = 0 := by omega
      obtain rfl : fs = [] := List.length_eq_zero_iff.1 hfl
      exact ⟨[], _, none, rfl, HR_one hg (.inl rfl), .s0 0 0 2 a none rfl, by simp, by simp⟩
    · obtain ⟨b, o, sp⟩ := a
      obtain ⟨h1, _⟩ := hx 0 hz
      have hc : ∃ c ty fz, W.heap[b]? = some (.cells c ty fz) ∧ sp = none := by
        have h1 : W.cell? ⟨b, o, sp⟩ = some (V0 0) := by simpa [Addr.add] using h1
        unfold World.cell? at h1
        cases hw : W.heap[b]? with
        | none => simp [hw] at h1
        | some ob =>
          cases ob with
          | cells c ty fz => exact ⟨c, ty, fz, rfl, by cases sp with | none => rfl | some q => simp [hw] at h1⟩
          | _ => simp [hw] at h1
      obtain ⟨c, ty, fz, hw, rfl⟩ := hc
      have cell : ∀ k v, W.cell? ((⟨b, o, none⟩ : Addr).add k) = some v → c[o + k]? = some v := fun k v hk => by
        have : (⟨b, o, none⟩ : Addr).add k = ⟨b, o + k, none⟩ := by
          unfold Addr.add
          split
          · rename_i h0; subst h0; rfl
          · rfl
        rw [this] at hk
        unfold World.cell? at hk
        simpa [hw] using hk
      refine ⟨fs, _, some ⟨b, o, m * 2⟩, rfl, HR_one hg (.inr ⟨c, ty, fz, hw, fun j v hj => ?_, (fun h => by cases h), (fun h => by cases h)⟩), ?_, hlen, by omega⟩
      · obtain ⟨i, hi, h2⟩ := fcells_get hj
        obtain ⟨s0, s1, e0, e1, w0, w1⟩ := str i (by omega)
        obtain ⟨g0, g1, _⟩ := hx i (by omega)
        rcases h2 with ⟨rfl, rfl⟩ | ⟨rfl, rfl⟩
        · rw [hfg i hi, e0]
          exact ⟨_, cell _ _ g0, by rw [e0]; exact R_str w0⟩
        · rw [hfg i hi, e1]
          exact ⟨_, cell _ _ g1, by rw [e1]; exact R_str w1⟩
      · rw [hfl]
        have := R.sl (r := [some ⟨b, o, m * 2⟩]) 0 0 len 2 m ⟨b, o, m * 2⟩ rfl (by simp) hl (by omega)
        simpa using this
theorem evalAsks_calls {W : World} {k tx doc url dest meth : ByteArray} {cors creds : Bool} {redir : Int} {fs : List (List Int × List Int)} {v : Value} {y : Option Loc} (hk : k.size ≤ 281474976710656) (htx : tx.size ≤ 281474976710656) (hd : doc.size ≤ 281474976710656) (hu : url.size ≤ 281474976710656) (hde : dest.size ≤ 281474976710656) (hm : meth.size ≤ 281474976710656) (hr : IntKind.i64.wrap redir = redir)
    (hR : HR G0 [y] [⟨1, false, fcells fs⟩] W.heap) (hv : R [y] (.sl 0 0 fs.length 2) v) (hf : ∀ f ∈ fs, f.1.length ≤ 281474976710656 ∧ f.2.length ≤ 281474976710656) (hn : fs.length ≤ 281474976710656) :
    Calls Tryz.prog 3 #[.agg #[.string k, .string tx], .agg #[.string doc, .string url, .string dest, .string meth, .bool cors, .bool creds, .int .i64 redir, v]] W fun e w' => e = .returned (.bool true) ∧ Below W.heap.size W w' := by
  have hC : pLawEaC [.agg [.s (ofBA k), .s (ofBA tx)], .agg [.s (ofBA doc), .s (ofBA url), .s (ofBA dest), .s (ofBA meth), .b cors, .b creds, .i .i64 redir, .sl 0 0 fs.length 2]] [⟨1, false, fcells fs⟩] = some (.b true, [⟨1, false, fcells fs⟩]) := by
    unfold pLawEaC
    simp only [fldsAt_arg]
    rw [if_pos ⟨hf, hn⟩]
  exact law_calls (ok_of (pLawEa_ok _ _ _ _ hC) (by kernel_rfl)) (fun i b h => by
      cases i with
      | zero => simp at h; subst h; simp [Own]
      | succ i => simp at h) hR
    (.cons (.agg _ [.string k, .string tx] (.cons (R_str hk) (.cons (R_str htx) .nil))) (.cons (.agg _ [.string doc, .string url, .string dest, .string meth, .bool cors, .bool creds, .int .i64 redir, v] (.cons (R_str hd) (.cons (R_str hu) (.cons (R_str hde) (.cons (R_str hm) (.cons (.b _) (.cons (.b _) (.cons (.i _ _ hr) (.cons hv .nil))))))))) .nil))
end GoD
