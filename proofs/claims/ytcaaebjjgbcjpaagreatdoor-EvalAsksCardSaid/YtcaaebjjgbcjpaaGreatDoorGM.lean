import Derived.Test.YtcaaebjjgbcjpaaGreatDoorGK
import Derived.Test.YtcaaebjjgbcjpaaGreatDoorGC
/-! Chapter 23: EvalAsks. -/
namespace GoD
open Go Go.Proofs
set_option linter.unusedVariables false
set_option linter.unusedSimpArgs false
set_option maxHeartbeats 8000000
set_option maxRecDepth 100000
def rAskC : Ct := fun args h => match args with
  | [.agg [.s k, .s tx], .agg [.s doc, .s url, .s dest, .s meth, .b cors, .b creds, .i .i64 redir, .sl b o n 2]] => (match fldsAt h b o n with
    | some fs => if okQ tx doc url meth n fs then some (.b (askQ urlL k tx doc url dest meth cors creds fs), h) else none
    | none => none)
  | _ => none
theorem rAsk_ok : CtOk Tryz.prog G0 8 rAskC := by
  refine ct_plain (n := 2) fol (sound_cons rURL_ok (sound_cons rSelfQ_ok (sound_cons rAsked_ok sound_nil))) (by kernel_rfl) Tryz.func8 rfl fun args h v h' hc r xs H hr hx => ?_
  unfold rAskC at hc; split at hc <;> (try split at hc) <;> (try split at hc) <;> cases hc
  rename_i k tx doc url dest meth cors creds redir b o n _ fs hf hl
  obtain ⟨l1, l2, l3, l4, l5, l6⟩ := hl
  have hb := fldsAt_lt hf
  refine ⟨rfl, rfl, by simp [renV, bndV], ?_⟩
  unfold askQ
  have hb2 : ∀ k, b < h.length + k := fun k => by omega
  obtain ⟨oa, ob, op, hT⟩ : ∃ oa ob op, selfT urlL doc = (oa, ob, op) := ⟨_, _, _, rfl⟩
  obtain ⟨dk, hdk⟩ : ∃ dk, docOk urlL doc = dk := ⟨_, rfl⟩
  have hFx : ∀ l, fldsAt (h ++ l) b o n = some fs := fun l => fldsAt_ext ((Ext.refl h).app l) hf
  have hho := uOr_ho l3
  cases hu : urlL url with
  | none =>
    have hA : ∀ l, rAskedC [.agg [.s k, .s tx], .agg [.s doc, .s url, .s dest, .s meth, .b cors, .b creds, .i .i64 redir, .sl b o n 2], .agg [.s [], .s [], .s [], .s [], .i .i64 0, .s [], .b false, .s [], .b false, .s []], .agg [.s oa, .s ob, .i .i64 op]] (h ++ l) = some (.b (askB k tx dest meth cors creds fs urlZ false oa ob op), h ++ l) := fun l => by
      unfold rAskedC
      simp only [hFx l]
      rw [if_pos (by refine ⟨⟨l1, l4, l5, l6⟩, by simp, ?_⟩; intro _; simp)]
      rfl
    simp -implicitDefEqProofs [go_sem, Tryz.f8, rURLC, hu, urlAns, urlZ, Url.V, Url.cells, rSelfQC, hb2, selfU_T, hT, hdk, hA]
    rfl
  | some u =>
    have hs := urlL_sch hu
    rw [hu] at hho
    have hA : ∀ l, rAskedC [.agg [.s k, .s tx], .agg [.s doc, .s url, .s dest, .s meth, .b cors, .b creds, .i .i64 redir, .sl b o n 2], .agg [.s u.sch, .s u.us, .s u.pa, .s u.ho, .i .i64 u.po, .s u.path, .b u.q, .s u.qu, .b u.f, .s u.fr], .agg [.s oa, .s ob, .i .i64 op]] (h ++ l) = some (.b (askB k tx dest meth cors creds fs u true oa ob op), h ++ l) := fun l => by
      unfold rAskedC
      simp only [hFx l]
      rw [if_pos ⟨⟨l1, l4, l5, l6⟩, hho, fun e => absurd e hs⟩]
      simp [hs]
    simp -implicitDefEqProofs [go_sem, Tryz.f8, rURLC, hu, urlAns, Url.V, Url.cells, rSelfQC, hb2, selfU_T, hT, hdk, hA]
    rfl
theorem askQ_eq {k tx doc url dest meth : List Int} {cors creds : Bool} {fs : List (List Int × List Int)} (h1 : parseU url = urlL url) (h2 : parseU doc = urlL doc) : askQ parseU k tx doc url dest meth cors creds fs = askQ urlL k tx doc url dest meth cors creds fs := by
  have h3 : selfT parseU doc = selfT urlL doc := by unfold selfT; rw [h2]
  unfold askQ
  rw [h1, h3]
def pLawEaC : Ct := fun args h => match args with
  | [.agg [.s k, .s tx], .agg [.s doc, .s url, .s dest, .s meth, .b cors, .b creds, .i .i64 redir, .sl b o n 2]] => (match fldsAt h b o n with
    | some fs => if (∀ f ∈ fs, f.1.length ≤ 281474976710656 ∧ f.2.length ≤ 281474976710656) ∧ n ≤ 281474976710656 then some (.b true, h) else none
    | none => none)
  | _ => none
theorem pLawEa_ok : CtOk Tryz.prog G0 3 pLawEaC := by
  refine ct_plain (n := 2) fol (sound_cons pSmall_ok (sound_cons pAwake23_ok (sound_cons pAsk_ok (sound_cons rAsk_ok sound_nil)))) (by kernel_rfl) Tryz.func3 rfl fun args h v h' hc r xs H hr hx => ?_
  unfold pLawEaC at hc; split at hc <;> (try split at hc) <;> (try split at hc) <;> cases hc
  rename_i k tx doc url dest meth cors creds redir b o n _ fs hf hl
  obtain ⟨hl2, hl3⟩ := hl
  refine ⟨rfl, rfl, by simp [renV, bndV], ?_⟩
  have s0 := agg_str hx (i := 0) rfl
  have s1 := agg_str hx (i := 1) rfl
  obtain ⟨_, hx2⟩ := RL_tail hx
  have q0 := agg_str hx2 (i := 0) rfl
  have q1 := agg_str hx2 (i := 1) rfl
  have q2 := agg_str hx2 (i := 2) rfl
  have q3 := agg_str hx2 (i := 3) rfl
  have hFx : ∀ l, fldsAt (h ++ l) b o n = some fs := fun l => fldsAt_ext ((Ext.refl h).app l) hf
  obtain ⟨bs, hbs⟩ : ∃ bs : Nat, doc.length + url.length + dest.length + meth.length = bs := ⟨_, rfl⟩
  have hS : ∀ l, pSmallC [.agg [.s doc, .s url, .s dest, .s meth, .b cors, .b creds, .i .i64 redir, .sl b o n 2]] (h ++ l) = some (.b (smallG bs fs), h ++ l) := fun l => by
    unfold pSmallC
    simp only [hFx l]
    rw [if_pos ⟨⟨q0.2, q1.2, q2.2, q3.2⟩, hl2, hl3⟩, hbs]
  have w1 : IntKind.i64.wrap ((k.length : Int) + tx.length) = (k.length : Int) + tx.length := w64 (by have := s0.2; have := s1.2; omega)
  cases hsm : smallG bs fs with
  | false => simp -implicitDefEqProofs [go_sem, Tryz.f3, hS, hsm, pAwake23C]
  | true =>
    obtain ⟨g1, g2, g3⟩ := smallG_le hsm
    by_cases c1 : k.length + tx.length ≤ 1000
    · have c1' : ¬ (1000 : Int) < (k.length : Int) + tx.length := by omega
      have hn : fs.length = n := by obtain ⟨_, _, _, _, h, _⟩ := fldsAt_eq hf; exact h
      have hok : okQ tx doc url meth n fs := ⟨by omega, by omega, by omega, by omega, by omega, g3⟩
      have hA : ∀ l, pAskC [.agg [.s k, .s tx], .agg [.s doc, .s url, .s dest, .s meth, .b cors, .b creds, .i .i64 redir, .sl b o n 2]] (h ++ l) = some (.b (askQ urlL k tx doc url dest meth cors creds fs), h ++ l) := fun l => by
        unfold pAskC
        simp only [hFx l]
        rw [if_pos hok, askQ_eq (parse_eq q1.1) (parse_eq q0.1)]
      have hB : ∀ l, rAskC [.agg [.s k, .s tx], .agg [.s doc, .s url, .s dest, .s meth, .b cors, .b creds, .i .i64 redir, .sl b o n 2]] (h ++ l) = some (.b (askQ urlL k tx doc url dest meth cors creds fs), h ++ l) := fun l => by
        unfold rAskC
        simp only [hFx l]
        rw [if_pos hok]
      simp -implicitDefEqProofs [go_sem, Tryz.f3, hS, hsm, pAwake23C, w1, c1', hA, hB]
    · have c1' : (1000 : Int) < (k.length : Int) + tx.length := by omega
      simp -implicitDefEqProofs [go_sem, Tryz.f3, hS, hsm, pAwake23C, w1, c1']
end GoD
