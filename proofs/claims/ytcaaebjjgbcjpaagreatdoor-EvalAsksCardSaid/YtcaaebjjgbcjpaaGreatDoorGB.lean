import Derived.Test.YtcaaebjjgbcjpaaGreatDoorDD
import Derived.Test.YtcaaebjjgbcjpaaGreatDoorEC
/-! A policy is read, and its rules are none: the two functions that leave with deferred calls. -/
namespace GoD
open Go Go.Proofs
set_option linter.unusedVariables false
set_option linter.unusedSimpArgs false
set_option maxHeartbeats 4000000
set_option maxRecDepth 100000
theorem pol1_idle (a b : Value) (w : World) : CallsD Tryz.prog 87 #[a, b] .returning w fun e u w' => (∃ y, e = .returned y) ∧ u = .returning ∧ w' = w := by
  refine callsD_of_wpS Tryz.func87 rfl fun c₀ cs hu => ?_
  have hne : ∀ w : World, (binOp BinOp.neq 20 .nilIface .nilIface).run Tryz.prog w = .ok (.bool false) w := fun _ => by kernel_rfl
  apply wpS_seq
  apply wpS_region
  simp [wpOpsS, go_sem, recoverD, hu, Tryz.ntmps87, Exit.thenS]
  apply wpS_seq
  apply wpS_region
  simp [wpOpsS, go_sem, Exit.thenS, hne]
  refine wpS_cond (t := false) (by simp [Act.eval]) ?_
  simp only [Bool.false_eq_true, if_false]
  refine wpS_of_wp (wp_skip ?_)
  cases c₀
  simp_all [bodyPostS, results, Tryz.f87]
end GoD

/-! Runs that are known, and the orders of this program's regions (chapter 23). -/
namespace GoD
open Go Go.Proofs
set_option linter.unusedVariables false
set_option linter.unusedSimpArgs false
set_option maxRecDepth 100000
def mI (n : Int) : V := .i .i64 n
def mY (n : Int) : V := .i .u8 n
def nilC : Ct := fun _ _ => none
/-- a run that is known: at these arguments, in this heap -/
def memC (a : List V) (h : Heap) (v : V) (k : Heap) (c : Ct) : Ct := fun a' h' => if (beqL a' a && beqH h' h) = true then some (v, k) else c a' h'
/-- the same, but that a block is not looked at -/
def killC (b : Nat) (a : List V) (h : Heap) (v : V) (k : Heap) (c : Ct) : Ct := fun a' h' => if (beqL a' a && beqH (h'.set b dead) h) = true then some (v, k) else c a' h'
/-- what is not wanted any more need not be there -/
theorem Ok.kill {P : Program} {G : Nat → List V} {f : FuncId} {args : List V} {h h' : Heap} {v : V} {b : Nat} (hok : Ok P G f args (h.set b dead) v h') : Ok P G f args h v h' := by
  have key : ∀ (i : Nat) (B : Blk), (h.set b dead)[i]? = some B → Own B → h[i]? = some B := by
    intro i B hi ho
    rw [List.getElem?_set] at hi
    split at hi
    · split at hi
      · obtain rfl := Option.some.inj hi
        exact absurd ho own_dead
      · cases hi
    · exact hi
  intro r w xs hr hx
  refine (hok r w xs (hr.kill b) hx).mono ?_
  rintro e w' ⟨x, r', h1, h2, h3, h4⟩
  refine ⟨x, r', h1, h2, h3, ⟨h4.pre, h4.size, h4.os, h4.tape, h4.output, fun k hk hn => h4.block k hk fun i B L a1 a2 a3 => hn i B L (key i B a1 a2) a2 a3, fun i B L a1 a2 a3 a4 => ?_⟩⟩
  obtain ⟨j, B', L', c1, c2, c3, c4⟩ := h4.own i B L a1 a2 a3 a4
  exact ⟨j, B', L', key j B' c1 c2, c2, c3, c4⟩
theorem nilC_ok {P : Program} {G : Nat → List V} {f : FuncId} : CtOk P G f nilC := fun _ _ _ _ hc => by cases hc
theorem memC_ok {P : Program} {G : Nat → List V} {f : FuncId} {a : List V} {h : Heap} {v : V} {k : Heap} {c : Ct} (h1 : Known P G f a h v k) (h2 : CtOk P G f c) : CtOk P G f (memC a h v k c) := fun a' h' v' k' hc => by
  unfold memC at hc
  split at hc
  · rename_i hq
    simp only [Bool.and_eq_true] at hq
    obtain rfl := beqL_eq hq.1
    obtain rfl := beqH_eq hq.2
    obtain ⟨rfl, rfl⟩ := Prod.mk.inj (Option.some.inj hc)
    exact h1
  · exact h2 _ _ _ _ hc
theorem killC_ok {P : Program} {G : Nat → List V} {f : FuncId} {b : Nat} {a : List V} {h : Heap} {v : V} {k : Heap} {c : Ct} (h1 : Known P G f a h v k) (hf : callableB P f = true) (h2 : CtOk P G f c) : CtOk P G f (killC b a h v k c) := fun a' h' v' k' hc => by
  unfold killC at hc
  split at hc
  · rename_i hq
    simp only [Bool.and_eq_true] at hq
    obtain rfl := beqL_eq hq.1
    have hh := beqH_eq hq.2
    obtain ⟨rfl, rfl⟩ := Prod.mk.inj (Option.some.inj hc)
    refine .inl ⟨callable_of hf, Ok.kill (b := b) ?_⟩
    rw [hh]
    rcases h1 with ⟨_, h3⟩ | ⟨rfl, h3⟩
    · exact h3
    · intro r w xs hr hx
      exfalso
      obtain ⟨x, e1, _⟩ := h3 r xs w hx
      obtain ⟨fn, hf', hb, hn⟩ := callable_of hf
      have hn' : ¬ fn.name = "runtime.NumGoroutine" := by simpa using hn
      have hb' : ¬ fn.body = none := fun e => by rw [e] at hb; cases hb
      rw [callFunc] at e1
      simp [hf', Sem.run] at e1
      rw [if_neg hn', if_neg hb'] at e1
      cases e1
  · exact h2 _ _ _ _ hc
def pm23 (f : Nat) : List (Nat × List Nat × List Nat) := (888888888, [], []) ::
  if f = 3 then [(3, List.range 11, [2000024, 2000027])] else
  if f = 4 then [(11, List.range 9, [1000061, 2000064])] else
  if f = 11 then [(25, List.range 14, [1000093, 2000094]), (40, List.range 12, [2000143])] else
  if f = 13 then [(3, List.range 14, [2000029])] else
  if f = 15 then [(3, List.range 11, [1000017, 2000018]), (11, List.range 11, [2000050]), (17, List.range 12, [2000082]), (19, List.range 15, [2000099]), (21, List.range 15, [2000115])] else
  if f = 18 then [(4, List.range 5, [1000019, 2000020]), (12, List.range 8, [2000044])] else
  if f = 20 then [(20, [0, 1, 2, 4, 5, 3, 6, 7], []), (20, List.range 8, [])] else
  if f = 22 then [(13, List.range 7, [])] else
  if f = 31 then [(4, List.range 10, [2000026])] else
  if f = 33 then [(1, List.range 8, [1000008])] else
  if f = 36 then [(3, List.range 20, [2000023, 2000030, 2000038]), (9, List.range 24, [2000056, 2000070])] else
  if f = 38 then [(3, [0, 2, 1, 3], []), (3, List.range 4, [])] else
  if f = 43 then [(1, List.range 8, [1000008])] else
  if f = 70 then [(1, List.range 14, [2000019])] else
  if f = 73 then [(1, List.range 26, [1000030, 2000031]), (3, List.range 18, [45]), (6, List.range 12, [2000060]), (8, List.range 19, [2000078])] else
  if f = 87 then [(5, [0, 2, 1, 3], []), (5, List.range 4, [])] else
  if f = 88 then [(15, List.range 14, [1000083]), (13, List.range 17, [1000067])] else
  if f = 91 then [(13, [0, 2, 3, 4, 5, 6, 7, 8, 9, 10, 11, 12, 1, 13, 14, 15], []), (13, List.range 16, []), (14, List.range 12, [1000087]), (15, List.range 12, [1000098]), (16, [0, 1, 2, 3, 5, 6, 7, 8, 9, 10, 4, 11, 12, 13], []), (16, List.range 14, [])] else
  if f = 92 then [(5, [0, 2, 3, 1, 4, 5], []), (5, List.range 6, [])] else
  if f = 93 then [(5, [0, 1, 4, 2, 3, 5, 6], []), (5, List.range 7, [])] else
  if f = 94 then [(5, [0, 1, 4, 2, 3, 5, 6], []), (5, List.range 7, [])] else
  if f = 133 then [(1, [0, 1, 4, 2, 3, 5, 6], []), (1, List.range 7, [])] else
  if f = 138 then [(8, List.range 10, [2000039])] else
  if f = 140 then [(3, List.range 20, [2000023, 2000030, 2000038])] else
  if f = 145 then [(8, List.range 9, [37])] else
  if f = 147 then [(4, List.range 9, [2000024])] else
  if f = 152 then [(1, List.range 19, [2000009])] else
  if f = 154 then [(13, [0, 1, 2, 3, 4, 5, 6, 8, 9, 10, 11, 13, 14, 15, 16, 20, 21, 17, 12, 7, 18, 19, 22, 23], []), (13, [0, 1, 2, 3, 4, 5, 6, 8, 9, 10, 11, 13, 14, 15, 16, 17, 18, 20, 21, 12, 7, 19, 22, 23], []), (13, [0, 1, 2, 3, 4, 5, 6, 8, 9, 10, 11, 13, 14, 15, 16, 17, 12, 18, 20, 21, 7, 19, 22, 23], []), (13, [0, 1, 2, 3, 4, 5, 6, 8, 9, 10, 11, 13, 14, 15, 16, 17, 12, 7, 18, 19, 20, 21, 22, 23], []), (13, [0, 1, 2, 3, 4, 5, 6, 8, 9, 10, 11, 13, 14, 15, 16, 17, 7, 18, 20, 21, 12, 19, 22, 23], []), (13, [0, 1, 2, 3, 4, 5, 6, 8, 9, 10, 11, 12, 13, 14, 15, 16, 20, 21, 17, 7, 18, 19, 22, 23], []), (13, [0, 1, 2, 3, 4, 5, 6, 8, 9, 10, 11, 12, 7, 13, 14, 15, 16, 20, 21, 17, 18, 19, 22, 23], []), (13, [0, 1, 2, 3, 4, 5, 6, 7, 8, 9, 10, 11, 13, 14, 15, 16, 20, 21, 17, 12, 18, 19, 22, 23], []), (15, List.range 11, [])] else
  if f = 158 then [(5, List.range 8, [1000019]), (7, List.range 8, [1000028]), (8, List.range 13, [])] else
  if f = 162 then [(6, List.range 14, [1000028])] else
  if f = 163 then [(7, List.range 12, [2000027])] else
  if f = 166 then [(7, List.range 13, [2000032, 2000035]), (9, List.range 21, [2000047, 2000050, 2000054, 2000057])] else
  if f = 187 then [(6, List.range 17, [2000043, 2000049])] else
  if f = 198 then [(4, List.range 6, [2000022])] else
  if f = 213 then [(2, List.range 16, [2000011, 2000024])] else
  if f = 222 then [(12, List.range 14, [1000079, 2000080])] else
  if f = 225 then [(7, List.range 11, [])] else
  if f = 230 then [(1, List.range 19, []), (2, List.range 39, [])] else
  if f = 235 then [(3, List.range 9, [2000035])] else
  if f = 239 then [(6, List.range 12, [2000028, 2000033])] else
  if f = 244 then [(3, [0, 1, 2, 3, 5, 6, 7, 8, 4, 9, 10, 11, 12], []), (3, List.range 13, [])] else
  if f = 246 then [(1, [0, 1, 2, 3, 5, 6, 7, 8, 4, 9, 10, 11], []), (1, List.range 12, [])] else
  if f = 248 then [(8, List.range 17, [2000048])] else
  if f = 262 then [(13, List.range 11, [2000066])] else
  if f = 271 then [(0, List.range 6, [2000008, 2000009])] else
  if f = 273 then [(28, List.range 18, [2000115])] else
  if f = 281 then [(0, [0, 1, 2, 3, 6, 9, 10, 11, 12, 4, 5, 7, 8, 13, 14, 15], []), (0, List.range 16, [])] else
  if f = 288 then [(1, List.range 4, [1000013, 2000014])] else
  if f = 291 then [(12, List.range 10, [2000061])] else
  if f = 293 then [(9, List.range 12, [1000033])] else
  if f = 300 then [(17, List.range 15, [2000085])] else
  if f = 312 then [(10, List.range 11, [2000077]), (31, List.range 13, [2000224])] else
  if f = 333 then [(4, List.range 15, [2000029])] else
  if f = 338 then [(5, List.range 16, [2000030]), (16, List.range 11, [2000077]), (22, List.range 11, [2000115])] else
  if f = 340 then [(3, List.range 15, [2000041]), (5, List.range 14, [2000058])] else
  if f = 341 then [(3, List.range 14, [2000042]), (5, List.range 15, [2000058]), (13, List.range 14, [2000111]), (15, List.range 15, [2000127])] else
  if f = 359 then [(4, List.range 8, [2000025, 2000028])] else
  if f = 360 then [(3, List.range 20, [2000035]), (5, List.range 14, [2000051])] else
  if f = 381 then [(1, List.range 9, [2000018])] else
  if f = 402 then [(3, List.range 9, [2000016])] else
  if f = 403 then [(3, List.range 9, [2000021])] else
  []
set_option maxHeartbeats 4000000 in
theorem okA : okAll Tryz.prog [] pm23 = true := by kernel_rfl
noncomputable abbrev envN (tr : List FuncId) (ext : List (FuncId × Ct)) (f : FuncId) : Env := ⟨Tryz.prog, callN Tryz.prog G0 [] tr pm23 ext 300 40, G0, beqH, fun _ _ => beqH_eq, pm23 f⟩
theorem polT {tr : List FuncId} {ext : List (FuncId × Ct)} (he : Sound (ctx Tryz.prog G0 ext)) {a : List V} {h k : Heap} {v : V}
    (hok : decide (a.length ≤ Tryz.f38.ntmps) = true)
    (hr : stepsD (envN tr ext 38) 300 (bodyC Tryz.f38) 16 87 #[.tmp 2, .tmp 3] Tryz.f38.results.toList a h = some (v, k)) : Known Tryz.prog G0 38 a h v k := by
  refine .inl ⟨callable_of (by kernel_rfl), stepsD_ok (E := envN tr ext 38) fol (callN_ok fol okA he 40 _) Tryz.func38 (id := 4) rfl ?_ ?_ ?_ hr⟩
  · rw [hok]; kernel_rfl
  · exact fun xs w => by simp [callFunc, Tryz.func87, go_sem]; rfl
  · intro xs w hs
    obtain ⟨l⟩ := xs
    match l, hs with
    | [a, b], _ => exact pol1_idle a b w
theorem ruleT {tr : List FuncId} {ext : List (FuncId × Ct)} (he : Sound (ctx Tryz.prog G0 ext)) {a : List V} {h k : Heap} {v : V}
    (hok : decide (a.length ≤ Tryz.f90.ntmps) = true)
    (hr : stepsR (envN tr ext 90) 300 (bodyC Tryz.f90) 11 Tryz.f90.results.toList a h = some (v, k)) : Known Tryz.prog G0 90 a h v k := by
  refine .inl ⟨callable_of (by kernel_rfl), stepsR_ok (E := envN tr ext 90) fol (callN_ok fol okA he 40 _) Tryz.func90 (bid := 0) rfl ?_ hr⟩
  rw [hok]; kernel_rfl
end GoD
