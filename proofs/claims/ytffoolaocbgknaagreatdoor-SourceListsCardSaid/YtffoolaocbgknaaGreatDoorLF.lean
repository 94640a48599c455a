import Derived.Test.YtffoolaocbgknaaGreatDoorLB
/-! Chapter 15's laws that are told outright. -/
namespace GoD
open Go Go.Proofs
set_option linter.unusedVariables false
set_option linter.unusedSimpArgs false
set_option maxHeartbeats 2000000
set_option maxRecDepth 100000
theorem urlOk_sch {l : List Int} (h : urlOk l = true) : (defaultL (urlOr l).sch).2 = true := by
  unfold urlOk at h
  rw [Bool.and_eq_true] at h
  unfold urlOr
  cases hu : urlL l with
  | none => rw [hu] at h; exact absurd h.1 (by simp)
  | some u =>
    show (defaultL u.sch).2 = true
    unfold urlL at hu
    split at hu
    · cases hu
    · split at hu
      · unfold url1 at hu
        split at hu
        · rename_i hd
          unfold url2 at hu
          split at hu
          · cases hu
          · rw [← Option.some.inj hu]; exact hd
        · cases hu
      · cases hu
theorem urlOk_null {l : List Int} (h : urlOk l = true) (b : List Int) (p : Int) : oNull (urlOr l).sch b p = false := by
  have h1 := urlOk_sch h
  have : (urlOr l).sch ≠ [] := fun e => by rw [e] at h1; simp [defaultL] at h1
  unfold oNull
  rw [decide_eq_false this]; rfl
theorem match_wide (k : Int) (es eh ep ea a d : List Int) (p : Int) (e os oh : List Int) (op : Int) : (matchB ⟨k, es, eh, ep, ea⟩ a d p e os oh op 0 = true → matchB ⟨k, es, eh, ep, []⟩ a d p e os oh op 0 = true) ∧ matchB ⟨k, es, eh, ep, []⟩ a d p e os oh op 0 = matchB ⟨k, es, eh, ep, ea⟩ a d p e os oh op 1 := by
  have hp : pathB [] e = true := by unfold pathB; rw [if_pos (.inl rfl)]
  unfold matchB namedB
  simp only
  split
  · exact ⟨id, rfl⟩
  · split
    · exact ⟨id, rfl⟩
    · split
      · exact ⟨id, rfl⟩
      · split
        · rw [hp]
          refine ⟨fun h => ?_, by simp⟩
          simp only [Bool.and_eq_true] at h ⊢
          exact ⟨h.1, by simp⟩
        · exact ⟨id, rfl⟩
theorem scheme_wide (a : List Int) : schemeB [104, 116, 116, 112, 115] a = true → schemeB [104, 116, 116, 112] a = true := by
  intro h
  simp [schemeB] at h
  simp [schemeB, ← h]
def pLawWC : Ct := fun args h => match args with | [.s a, .s b, .s c] => some (.b true, h) | _ => none
theorem own_own {us uh : List Int} {up : Int} (h : oNull us uh (portL us up) = false) : ownB us uh up us uh (portL us up) = true := by unfold ownB; rw [h]; simp
theorem own_other {us uh vs vh : List Int} {vp q : Int} (h : ¬ uh = vh) : ownB vs vh vp us uh q = false := by unfold ownB; rw [decide_eq_false h]; simp
theorem own_null (us uh : List Int) (up : Int) : ownB us uh up [] [] 0 = false := by unfold ownB; simp [oNull]
def pLawOC : Ct := fun args h => match args with | [.s a, .s b] => some (.b true, h) | _ => none
end GoD
