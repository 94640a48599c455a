import Derived.Test.YtknkokkgefcdbaaDoorLC
import Derived.Test.YtknkokkgefcdbaaDoorMB
import Derived.SizedLaws
/-! Chapter 18's answers, told to their rows. -/
namespace Go.Proofs.YtknkokkgefcdbaaDoor.PD
open Go Go.Proofs Go.RowKit GoD Go.Proofs.YtknkokkgefcdbaaDoorW.PrintWords
set_option maxRecDepth 100000
theorem sized_org {H : Type} {P : Program} {ts : List TypeId} {ds : List (DataW H)} (h : (DataW.weightsEach P ts ds).all (· ≤ reachBytes) = true) {j : Nat} {t : TypeId} {b1 b2 : List UInt8} {x : DataW H} {f1 f2 f3 : Field} (ht : ts[j]? = some t) (hd : ds[j]? = some (.agg [.lit (.string b1), .lit (.string b2), x])) (hu : P.underlying t = some (.struct #[f1, f2, f3])) : b1.length ≤ 140737488351232 ∧ b2.length ≤ 140737488351232 := by
  have key : ∀ n, n ∈ DataW.weights P t (DataW.agg [.lit (.string b1), .lit (.string b2), x]) → n ≤ 140737488351232 := fun n hn => by
    have := List.all_eq_true.1 h n (DataW.weights_mem_each ht hd n hn)
    have hr : reachBytes = 140737488351232 := rfl
    rw [← hr]
    simpa using this
  refine ⟨key _ ?_, key _ ?_⟩
  · simp only [DataW.weights, hu]
    exact DataW.weights_mem_each (ts := [f1.type, f2.type, f3.type]) (j := 0) (t := f1.type) rfl rfl _ (by simp [DataW.weights])
  · simp only [DataW.weights, hu]
    exact DataW.weights_mem_each (ts := [f1.type, f2.type, f3.type]) (j := 1) (t := f2.type) rfl rfl _ (by simp [DataW.weights])
def OSS.f (a b : ByteArray) (p : Int) (s d : ByteArray) : Option Bool := if a.size ≤ 281474976710656 ∧ b.size ≤ 281474976710656 ∧ IntKind.i64.wrap p = p ∧ s.size ≤ 281474976710656 ∧ d.size ≤ 281474976710656 then some true else none
theorem OSS.calls {f : FuncId} {C : Ct} (ok : CtOk Tryd.prog G0 f C) (hC : ∀ a b p s d, a.length ≤ 281474976710656 → b.length ≤ 281474976710656 → C [.agg [.s a, .s b, .i .i64 p], .s s, .s d] [] = some (.b true, [])) (hf : callableB Tryd.prog f = true) (a b : ByteArray) (p : Int) (s d : ByteArray) (r : Bool) (w : World) (h : OSS.f a b p s d = some r) : Calls Tryd.prog f #[.agg #[.string a, .string b, .int .i64 p], .string s, .string d] w fun e w' => e = .returned (.bool r) ∧ Below w.heap.size w w' := by
  unfold OSS.f at h
  split at h
  · rename_i h0
    obtain ⟨h0, h1, h2, h3, h4⟩ := h0
    obtain rfl := Option.some.inj h
    exact law_calls (ok_of (ok _ _ _ _ (hC _ _ p _ _ (str_ofBA h0).2 (str_ofBA h1).2)) hf) (fun i b h => by simp at h) (HR_nil w) (.cons (.agg _ [.string a, .string b, .int .i64 p] (.cons (R_str h0) (.cons (R_str h1) (.cons (.i _ _ h2) .nil)))) (.cons (R_str h3) (.cons (R_str h4) .nil)))
  · cases h
theorem OSS.holds {a b : ByteArray} {p : Int} {s d : ByteArray} (h0 : a.size ≤ 140737488351232) (h1 : b.size ≤ 140737488351232) (h2 : (Lit.int .i64 p).wf = true) (h3 : s.size ≤ 140737488351232) (h4 : d.size ≤ 140737488351232) : OSS.f a b p s d = some true := if_pos ⟨by omega, by omega, wrap_of h2, by omega, by omega⟩
def IIB.f (k a : Int) (p : Bool) : Option Bool := if IntKind.i64.wrap k = k ∧ IntKind.i64.wrap a = a then some true else none
theorem IIB.calls {f : FuncId} {C : Ct} (ok : CtOk Tryd.prog G0 f C) (hC : ∀ k a p, C [.i .i64 k, .i .i64 a, .b p] [] = some (.b true, [])) (hf : callableB Tryd.prog f = true) (k a : Int) (p : Bool) (r : Bool) (w : World) (h : IIB.f k a p = some r) : Calls Tryd.prog f #[.int .i64 k, .int .i64 a, .bool p] w fun e w' => e = .returned (.bool r) ∧ Below w.heap.size w w' := by
  unfold IIB.f at h
  split at h
  · rename_i h0
    obtain rfl := Option.some.inj h
    exact law_calls (ok_of (ok _ _ _ _ (hC _ _ _)) hf) (fun i b h => by simp at h) (HR_nil w) (.cons (.i _ _ h0.1) (.cons (.i _ _ h0.2) (.cons (.b _) .nil)))
  · cases h
theorem IIB.holds {k a : Int} {p : Bool} (h0 : (Lit.int .i64 k).wf = true) (h1 : (Lit.int .i64 a).wf = true) : IIB.f k a p = some true := if_pos ⟨wrap_of h0, wrap_of h1⟩
def MixedUpgrades.f := OSS.f
theorem MixedUpgrades.calls (a b : ByteArray) (p : Int) (s d : ByteArray) (r : Bool) (w : World) (h : MixedUpgrades.f a b p s d = some r) : Calls Tryd.prog 6 #[.agg #[.string a, .string b, .int .i64 p], .string s, .string d] w fun e w' => e = .returned (.bool r) ∧ Below w.heap.size w w' := OSS.calls pLawU_ok (fun a b p s d h1 h2 => by simp only [pLawUC, h1, h2, and_self, if_true]) (by kernel_rfl) a b p s d r w h
def MixedMedia.f := IIB.f
theorem MixedMedia.calls (k a : Int) (p : Bool) (r : Bool) (w : World) (h : MixedMedia.f k a p = some r) : Calls Tryd.prog 7 #[.int .i64 k, .int .i64 a, .bool p] w fun e w' => e = .returned (.bool r) ∧ Below w.heap.size w w' := IIB.calls pLawM_ok (fun _ _ _ => rfl) (by kernel_rfl) k a p r w h
end Go.Proofs.YtknkokkgefcdbaaDoor.PD
