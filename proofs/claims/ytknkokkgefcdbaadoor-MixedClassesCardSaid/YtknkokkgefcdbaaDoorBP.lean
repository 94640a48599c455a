-- written by shrink.py: what the printed texts repeat
import Derived.Test.YtknkokkgefcdbaaDoorProg
import Derived.Below
import Derived.Deep.Draws
import Derived.Deep.AppendLies
import Derived.Maps.AppendAt
import Derived.OwnWalk
import Derived.Laws.BytesArg
import Derived.Laws.MakeOwn
import Derived.Laws.OwnMore
import Derived.Deep.OwnRows
import Derived.Tactics
import Derived.Lib.ConvBytes
import Derived.Laws.Slices
import Derived.WalkKit
import Derived.KernelRfl
import Derived.RowKit3
import Derived.Deep.LoopGhost
import Derived.Deep.QuietTactic
import Derived.BigQuiet
import Derived.WideLaws
import Derived.Deep.DeepCutAuto
import Derived.Deep.CutBlock
import Derived.Deep.RegionHeld3
import Derived.Laws.Rows
import Derived.Lib.AppendStr
import Derived.ArgAppend
import Derived.Laws.IdiomCopy
import Derived.OrdersHeld
import Derived.Laws.BitsLemmas
import Derived.RowKit
import Derived.Test.YtknkokkgefcdbaaDoorV0
namespace Go.Proofs.YtknkokkgefcdbaaDoor.PA
open Go.RowKit Go.Proofs.YtknkokkgefcdbaaDoorW.PrintWords Go.Proofs.YtknkokkgefcdbaaDoorW.PrintLast Go.Proofs.YtknkokkgefcdbaaDoorW.PrintMore
set_option linter.unusedVariables false
theorem bp3_0 {w : World} {g : Nat} {t : TypeId} {a1 a2 x v : Value} (h : w.heap[g]? = some (.cells #[x, a1, a2] t (0, 0))) : (w.setCell ⟨g, 0, none⟩ v).heap[g]? = some (.cells #[v, a1, a2] t (0, 0)) := blk_put h 0 v rfl
theorem bp3_1 {w : World} {g : Nat} {t : TypeId} {a0 a2 x v : Value} (h : w.heap[g]? = some (.cells #[a0, x, a2] t (0, 0))) : (w.setCell ⟨g, 1, none⟩ v).heap[g]? = some (.cells #[a0, v, a2] t (0, 0)) := blk_put h 1 v rfl
theorem bp3_2 {w : World} {g : Nat} {t : TypeId} {a0 a1 x v : Value} (h : w.heap[g]? = some (.cells #[a0, a1, x] t (0, 0))) : (w.setCell ⟨g, 2, none⟩ v).heap[g]? = some (.cells #[a0, a1, v] t (0, 0)) := blk_put h 2 v rfl
theorem bp10_0 {w : World} {g : Nat} {t : TypeId} {a1 a2 a3 a4 a5 a6 a7 a8 a9 x v : Value} (h : w.heap[g]? = some (.cells #[x, a1, a2, a3, a4, a5, a6, a7, a8, a9] t (0, 0))) : (w.setCell ⟨g, 0, none⟩ v).heap[g]? = some (.cells #[v, a1, a2, a3, a4, a5, a6, a7, a8, a9] t (0, 0)) := blk_put h 0 v rfl
theorem bp10_1 {w : World} {g : Nat} {t : TypeId} {a0 a2 a3 a4 a5 a6 a7 a8 a9 x v : Value} (h : w.heap[g]? = some (.cells #[a0, x, a2, a3, a4, a5, a6, a7, a8, a9] t (0, 0))) : (w.setCell ⟨g, 1, none⟩ v).heap[g]? = some (.cells #[a0, v, a2, a3, a4, a5, a6, a7, a8, a9] t (0, 0)) := blk_put h 1 v rfl
theorem bp10_2 {w : World} {g : Nat} {t : TypeId} {a0 a1 a3 a4 a5 a6 a7 a8 a9 x v : Value} (h : w.heap[g]? = some (.cells #[a0, a1, x, a3, a4, a5, a6, a7, a8, a9] t (0, 0))) : (w.setCell ⟨g, 2, none⟩ v).heap[g]? = some (.cells #[a0, a1, v, a3, a4, a5, a6, a7, a8, a9] t (0, 0)) := blk_put h 2 v rfl
theorem bp10_3 {w : World} {g : Nat} {t : TypeId} {a0 a1 a2 a4 a5 a6 a7 a8 a9 x v : Value} (h : w.heap[g]? = some (.cells #[a0, a1, a2, x, a4, a5, a6, a7, a8, a9] t (0, 0))) : (w.setCell ⟨g, 3, none⟩ v).heap[g]? = some (.cells #[a0, a1, a2, v, a4, a5, a6, a7, a8, a9] t (0, 0)) := blk_put h 3 v rfl
theorem bp10_4 {w : World} {g : Nat} {t : TypeId} {a0 a1 a2 a3 a5 a6 a7 a8 a9 x v : Value} (h : w.heap[g]? = some (.cells #[a0, a1, a2, a3, x, a5, a6, a7, a8, a9] t (0, 0))) : (w.setCell ⟨g, 4, none⟩ v).heap[g]? = some (.cells #[a0, a1, a2, a3, v, a5, a6, a7, a8, a9] t (0, 0)) := blk_put h 4 v rfl
theorem bp10_5 {w : World} {g : Nat} {t : TypeId} {a0 a1 a2 a3 a4 a6 a7 a8 a9 x v : Value} (h : w.heap[g]? = some (.cells #[a0, a1, a2, a3, a4, x, a6, a7, a8, a9] t (0, 0))) : (w.setCell ⟨g, 5, none⟩ v).heap[g]? = some (.cells #[a0, a1, a2, a3, a4, v, a6, a7, a8, a9] t (0, 0)) := blk_put h 5 v rfl
theorem bp10_6 {w : World} {g : Nat} {t : TypeId} {a0 a1 a2 a3 a4 a5 a7 a8 a9 x v : Value} (h : w.heap[g]? = some (.cells #[a0, a1, a2, a3, a4, a5, x, a7, a8, a9] t (0, 0))) : (w.setCell ⟨g, 6, none⟩ v).heap[g]? = some (.cells #[a0, a1, a2, a3, a4, a5, v, a7, a8, a9] t (0, 0)) := blk_put h 6 v rfl
theorem bp10_7 {w : World} {g : Nat} {t : TypeId} {a0 a1 a2 a3 a4 a5 a6 a8 a9 x v : Value} (h : w.heap[g]? = some (.cells #[a0, a1, a2, a3, a4, a5, a6, x, a8, a9] t (0, 0))) : (w.setCell ⟨g, 7, none⟩ v).heap[g]? = some (.cells #[a0, a1, a2, a3, a4, a5, a6, v, a8, a9] t (0, 0)) := blk_put h 7 v rfl
theorem bp10_8 {w : World} {g : Nat} {t : TypeId} {a0 a1 a2 a3 a4 a5 a6 a7 a9 x v : Value} (h : w.heap[g]? = some (.cells #[a0, a1, a2, a3, a4, a5, a6, a7, x, a9] t (0, 0))) : (w.setCell ⟨g, 8, none⟩ v).heap[g]? = some (.cells #[a0, a1, a2, a3, a4, a5, a6, a7, v, a9] t (0, 0)) := blk_put h 8 v rfl
theorem bp10_9 {w : World} {g : Nat} {t : TypeId} {a0 a1 a2 a3 a4 a5 a6 a7 a8 x v : Value} (h : w.heap[g]? = some (.cells #[a0, a1, a2, a3, a4, a5, a6, a7, a8, x] t (0, 0))) : (w.setCell ⟨g, 9, none⟩ v).heap[g]? = some (.cells #[a0, a1, a2, a3, a4, a5, a6, a7, a8, v] t (0, 0)) := blk_put h 9 v rfl
theorem asOut {P : Prop} (h : Aside0 P) : P := h.out
theorem BLK {P : Prop} (h : P := by (repeat (with_reducible first | refine blk_drewN ?_ _ | refine blk_drew ?_ | refine blk_alloc ?_ _ | apply bp3_0 | apply bp3_1 | apply bp3_2 | apply bp10_0 | apply bp10_1 | apply bp10_2 | apply bp10_3 | apply bp10_4 | apply bp10_5 | apply bp10_6 | apply bp10_7 | apply bp10_8 | apply bp10_9 | refine blk_far ?_ (asOut (by assumption)) _)); apply asOut; assumption) : P := h
theorem BWK {P : Prop} (h : P := by repeat (first | (with_reducible first | exact HB.out | apply below_alloc | apply pw_below_drewN | apply below_drew1 | refine below_set ?_ (asOut (by assumption))) | exact HB.out)) : P := h
theorem GAK {P : Prop} (h : P := by (try simp only [List.map_toArray, List.map_cons, List.map_nil]); first | done | rfl | (simp only [List.length_drop, List.length_take]; rfl)) : P := h
theorem odA {p : Prop} [Decidable p] (h : decide p = true := by first | (with_reducible assumption) | assumption) : p := of_decide_eq_true h
theorem RFK {P : Prop} (h : P := by first | rfl | (simp; done) | (simp [*]; done) | (simp [*] <;> (generalize ByteArray.toList _ = l_; cases l_ <;> rfl))) : P := h
theorem DRK {P : Prop} (h : P := by repeat (first | exact Drawn0.refl _ | apply Drawn0.step)) : P := h
theorem OMK {P : Prop} (h : P := by first | omega | exact Nat.le_refl _) : P := h
theorem ERK {P : Prop} (h : P := by first | rfl | (simp [errW_none, errW_some] <;> rfl) | (simp [*, errW_none, errW_some] <;> rfl)) : P := h
theorem bc0 {w : World} {g : Nat} {t : TypeId} { v : Value} {l : List Value} (h : w.heap[g]? = some (.cells (List.toArray (v :: l)) t (0, 0))) : w.cell? ⟨g, 0, none⟩ = some v := (blk_cell h 0).trans rfl
theorem bc1 {w : World} {g : Nat} {t : TypeId} {a0 v : Value} {l : List Value} (h : w.heap[g]? = some (.cells (List.toArray (a0 :: v :: l)) t (0, 0))) : w.cell? ⟨g, 1, none⟩ = some v := (blk_cell h 1).trans rfl
theorem bc2 {w : World} {g : Nat} {t : TypeId} {a0 a1 v : Value} {l : List Value} (h : w.heap[g]? = some (.cells (List.toArray (a0 :: a1 :: v :: l)) t (0, 0))) : w.cell? ⟨g, 2, none⟩ = some v := (blk_cell h 2).trans rfl
theorem bc3 {w : World} {g : Nat} {t : TypeId} {a0 a1 a2 v : Value} {l : List Value} (h : w.heap[g]? = some (.cells (List.toArray (a0 :: a1 :: a2 :: v :: l)) t (0, 0))) : w.cell? ⟨g, 3, none⟩ = some v := (blk_cell h 3).trans rfl
theorem bc4 {w : World} {g : Nat} {t : TypeId} {a0 a1 a2 a3 v : Value} {l : List Value} (h : w.heap[g]? = some (.cells (List.toArray (a0 :: a1 :: a2 :: a3 :: v :: l)) t (0, 0))) : w.cell? ⟨g, 4, none⟩ = some v := (blk_cell h 4).trans rfl
theorem bc5 {w : World} {g : Nat} {t : TypeId} {a0 a1 a2 a3 a4 v : Value} {l : List Value} (h : w.heap[g]? = some (.cells (List.toArray (a0 :: a1 :: a2 :: a3 :: a4 :: v :: l)) t (0, 0))) : w.cell? ⟨g, 5, none⟩ = some v := (blk_cell h 5).trans rfl
theorem bc6 {w : World} {g : Nat} {t : TypeId} {a0 a1 a2 a3 a4 a5 v : Value} {l : List Value} (h : w.heap[g]? = some (.cells (List.toArray (a0 :: a1 :: a2 :: a3 :: a4 :: a5 :: v :: l)) t (0, 0))) : w.cell? ⟨g, 6, none⟩ = some v := (blk_cell h 6).trans rfl
theorem bc7 {w : World} {g : Nat} {t : TypeId} {a0 a1 a2 a3 a4 a5 a6 v : Value} {l : List Value} (h : w.heap[g]? = some (.cells (List.toArray (a0 :: a1 :: a2 :: a3 :: a4 :: a5 :: a6 :: v :: l)) t (0, 0))) : w.cell? ⟨g, 7, none⟩ = some v := (blk_cell h 7).trans rfl
theorem bc8 {w : World} {g : Nat} {t : TypeId} {a0 a1 a2 a3 a4 a5 a6 a7 v : Value} {l : List Value} (h : w.heap[g]? = some (.cells (List.toArray (a0 :: a1 :: a2 :: a3 :: a4 :: a5 :: a6 :: a7 :: v :: l)) t (0, 0))) : w.cell? ⟨g, 8, none⟩ = some v := (blk_cell h 8).trans rfl
theorem bc9 {w : World} {g : Nat} {t : TypeId} {a0 a1 a2 a3 a4 a5 a6 a7 a8 v : Value} {l : List Value} (h : w.heap[g]? = some (.cells (List.toArray (a0 :: a1 :: a2 :: a3 :: a4 :: a5 :: a6 :: a7 :: a8 :: v :: l)) t (0, 0))) : w.cell? ⟨g, 9, none⟩ = some v := (blk_cell h 9).trans rfl
end Go.Proofs.YtknkokkgefcdbaaDoor.PA
