import Derived.Calls
import Derived.Orders
import Derived.Below
import Derived.Laws.Append
import Derived.Laws.Cells
import Derived.Laws.Entries
import Derived.Laws.Slices
import Derived.Laws.Small
import Derived.Laws.Strings
import Derived.Laws.StructEq
import Derived.Laws.Shifts
import Derived.Laws.BytesString
import Derived.Laws.Strings3
import Derived.Laws.Concat
/-! A plain machine over lists, and that it answers what the program answers. -/
namespace GoD
open Go
set_option linter.unusedVariables false
set_option linter.unusedSimpArgs false
/-- plain values -/
inductive V where
  | junk
  | b (x : Bool)
  | i (k : IntKind) (n : Int)
  | s (l : List Int)
  | p (b o : Nat)
  | g (n o : Nat)
  | sl (b o n z : Nat)
  | c (v : Value)
  | agg (l : List V)
  | tup (l : List V)
  | f (fn : Fn) (cap : List V)
  | ifc (t : TypeId) (v : V)
  /-- a row of no cells that is not nil -/
  | e0
  /-- some number -/
  | ai (k : IntKind)
  /-- a function with its first arguments -/
  | bf (fn : Fn) (first : List V)
  /-- a map: the block that holds it -/
  | m (b : Nat)
abbrev Tm := List V
def get : Tm → Nat → V
  | [], _ => .junk
  | v :: _, 0 => v
  | _ :: t, n + 1 => get t n
def set : Tm → Nat → V → Tm
  | [], 0, v => [v]
  | [], n + 1, v => .junk :: set [] n v
  | _ :: t, 0, v => v :: t
  | x :: t, n + 1, v => x :: set t n v
/-- a block: what it may be used for (0: nothing any more; 1: reading; 2: all), is its room known, its cells; 0 and 'true': a map, or what ranges over one -/
structure Blk where
  st : Nat
  x : Bool
  cells : List V
def dead : Blk := ⟨0, false, []⟩
/-- is there something in it still? -/
def Live (b : Blk) : Prop := b.st ≠ 0 ∨ b.x = true
/-- may it be written to? -/
def Own (b : Blk) : Prop := b.st = 2 ∨ (b.st = 0 ∧ b.x = true)
theorem Own.live {b : Blk} (h : Own b) : Live b := by rcases h with h | h; exact .inl (by omega); exact .inr h.2
theorem live_dead : ¬ Live dead := by rintro (h | h); exact h rfl; cases h
theorem own_dead : ¬ Own dead := fun h => live_dead h.live
abbrev Heap := List Blk
def hget (h : Heap) (i : Nat) : Blk := h.getD i dead
def ofBA (s : ByteArray) : List Int := s.data.toList.map fun c => (c.toNat : Int)
def toBA (l : List Int) : ByteArray := ⟨⟨l.map fun x => UInt8.ofNat x.toNat⟩⟩
def cv1 : Value → V
  | .bool b => .b b
  | .int k n => .i k n
  | .string s => .s (ofBA s)
  | v => .c v
def cv : Value → V
  | .bool b => .b b
  | .int k n => .i k n
  | .string s => .s (ofBA s)
  | .agg cs => .agg (cs.toList.map cv1)
  | v => .c v
def ev (t : Tm) : Operand → V
  | .tmp i => get t i
  | .const v => cv v
  | .global g => .g g 0
  | .func f => .f (.func f) []
structure Env where
  P : Program
  call : FuncId → List V → Heap → Option (V × Heap)
  G : Nat → List V
  same : Heap → Heap → Bool
  same_eq : ∀ a b, same a b = true → a = b
  /-- regions whose operations are put into an order of one's own: region, order, calls that do not look at the heap -/
  pm : List (Nat × List Nat × List Nat)
def cellsV : V → List V
  | .agg l => l
  | v => [v]
def aggT (P : Program) (t : TypeId) : Option Bool := match P.underlying t with
  | some (.struct _) => some true
  | some (.array _ _) => some true
  | some _ => some false
  | none => none
def okC : Value → Bool
  | .int k n => k.wrap n == n
  | .string s => decide (s.size ≤ 281474976710656)
  | v => v.oneCell'
def okK : Value → Bool
  | .agg cs => cs.toList.all okC
  | .tuple _ => true
  | v => okC v
def zeroT (P : Program) (t : TypeId) : Option (List V) := match P.info? t with
  | some i => match i.zero with | some z => if z.cells.toList.all okC then some (z.cells.toList.map cv1) else none | none => none
  | none => none
/-- n cells of a block from o on -/
def ldN (c : List V) (o n : Nat) : Option (List V) := if o + n ≤ c.length then some ((c.drop o).take n) else none
def cellsAt (E : Env) (h : Heap) : V → Nat → Option (List V)
  | .p b o, n => match hget h b with | ⟨0, _, _⟩ => none | ⟨_ + 1, _, c⟩ => ldN c o n
  | .g m o, n => match E.G m with | [] => none | x :: c => ldN (x :: c) o n
  | _, _ => none
def loadV (E : Env) (h : Heap) (t : TypeId) (a : V) : Option V :=
  match aggT E.P t with
  | some true => (cellsAt E h a (E.P.cellsOf t)).map .agg
  | some false => match cellsAt E h a 1 with | some [v] => some v | _ => none
  | none => none
def spl : List V → Nat → List V → List V
  | c, _, [] => c
  | c, o, v :: vs => spl (c.set o v) (o + 1) vs
def isOne : V → Bool
  | .agg _ | .tup _ | .junk => false
  | .c v => v.oneCell'
  | _ => true
def storeV (E : Env) (h : Heap) (t : TypeId) (a v : V) : Option Heap := match a with
  | .p b o => match hget h b with
    | ⟨2, x, c⟩ => if (cellsV v).length = E.P.cellsOf t ∧ 0 < (cellsV v).length ∧ o + (cellsV v).length ≤ c.length ∧ (cellsV v).all isOne = true then some (h.set b ⟨2, x, spl c o (cellsV v)⟩) else none
    | _ => none
  | _ => none
def fillV (place : Nat → Option (Nat × Nat)) (cells : List V) : List (Nat × V) → Option (List V)
  | [] => some cells
  | (i, v) :: rest => match place i with
    | none => none
    | some (off, size) => if (cellsV v).length = size ∧ off + (cellsV v).length ≤ cells.length ∧ (cellsV v).all isOne = true then fillV place (spl cells off (cellsV v)) rest else none
/-- a struct's fields: where they stand, their cells, their types -/
def fieldsT (P : Program) (t : TypeId) : Option (List (Nat × Nat × TypeId)) := match P.underlying t with
  | some (.struct fs) => if fs.toList.all (fun f => decide (0 < P.cellsOf f.type)) then some (fs.toList.map fun f => (f.offset, P.cellsOf f.type, f.type)) else none
  | _ => none
def buildV (P : Program) (t : TypeId) (parts : List (Nat × V)) : Option V := match zeroT P t with
  | none => none
  | some z => match fieldsT P t with
    | some l => (fillV (fun i => match l[i]? with | some f => some (f.1, f.2.1) | none => none) z parts).map .agg
    | none => match P.underlying t with
      | some (.array _ e) => if 0 < P.cellsOf e then (fillV (fun i => some (i * P.cellsOf e, P.cellsOf e)) z parts).map .agg else none
      | _ => none
def repL (n : Nat) (z : List V) : List V := match n with | 0 => [] | n + 1 => z ++ repL n z
def buildSliceV (P : Program) (h : Heap) (t : TypeId) (len : Nat) (parts : List (Nat × V)) : Option (V × Heap) := match P.underlying t with
  | some (.slice e) => match zeroT P e with
    | none => none
    | some z => if z.length = P.cellsOf e ∧ 0 < P.cellsOf e ∧ len * P.cellsOf e ≤ 16777216 then
        match fillV (fun i => some (i * P.cellsOf e, P.cellsOf e)) (repL len z) parts with
        | some c => some (.sl h.length 0 len (P.cellsOf e), h ++ [⟨2, true, c⟩])
        | none => none
      else none
  | _ => none
def bytesLess : List Int → List Int → Bool
  | _, [] => false
  | [], _ :: _ => true
  | a :: x, b :: y => decide (a < b) || (a == b && bytesLess x y)
def big : Nat := 281474976710656
def strOp (op : BinOp) (x y : List Int) : Option V := match op with
  | .add => if x.length + y.length ≤ 281474976710656 then some (.s (x ++ y)) else none
  | .eql => some (.b (x == y))
  | .neq => some (.b (!(x == y)))
  | .lss => some (.b (bytesLess x y))
  | .leq => some (.b (bytesLess x y || x == y))
  | .gtr => some (.b (!(bytesLess x y || x == y)))
  | .geq => some (.b (!bytesLess x y))
  | _ => none
def intOp (op : BinOp) (k : IntKind) (x y : Int) : Option V := match op with
  | .add => some (.i k (k.wrap (x + y)))
  | .sub => some (.i k (k.wrap (x - y)))
  | .mul => some (.i k (k.wrap (x * y)))
  | .quo => if y = 0 then none else some (.i k (k.wrap (x.tdiv y)))
  | .rem => if y = 0 then none else some (.i k (x.tmod y))
  | .eql => some (.b (x == y))
  | .neq => some (.b (x != y))
  | .lss => some (.b (decide (x < y)))
  | .leq => some (.b (decide (x ≤ y)))
  | .gtr => some (.b (decide (x > y)))
  | .geq => some (.b (decide (x ≥ y)))
  | .and => some (.i k (Go.bits .and k x y))
  | .or => some (.i k (Go.bits .or k x y))
  | .xor => some (.i k (Go.bits .xor k x y))
  | .andNot => some (.i k (Go.bits .andNot k x y))
  | _ => none
/-- are two cells the same? -/
def eqK (d : TypeDesc) (x y : V) : Option Bool := match d, x, y with
  | .bool, .b x, .b y => some (x == y)
  | .int _, .i k x, .i k' y => if k = k' then some (x == y) else none
  | .string, .s x, .s y => some (x == y)
  | _, _, _ => none
/-- flat structs, their fields one cell each -/
def eqF (P : Program) : List Field → List V → List V → Option Bool
  | [], _, _ => some true
  | f :: fs, x, y => match P.underlying f.type with
    | some d => match eqK d (get x f.offset) (get y f.offset) with
      | some a => match eqF P fs x y with
        | some b => if f.name ≠ "_" then some (a && b) else none
        | none => none
      | none => none
    | none => none
def eqV (P : Program) (t : TypeId) (x y : V) : Option Bool := match P.underlying t, x, y with
  | some .bool, .b x, .b y => some (x == y)
  | some (.struct fs), .agg xs, .agg ys => if P.stoodInHeld t = false ∧ P.eqGuardType P.depth t = false then eqF P fs.toList xs ys else none
  | some (.pointer _), .p _ _, .c (.pointer none) => some false
  | some (.pointer _), .c (.pointer none), .p _ _ => some false
  | some (.pointer _), .c (.pointer none), .c (.pointer none) => some true
  | some (.map _ _), .c (.map none), .c (.map none) => some true
  | some (.map _ _), .m _, .c (.map none) => some false
  | _, _, _ => none
def binV (P : Program) (op : BinOp) (t : TypeId) (x y : V) : Option V := match op, x, y with
  | .shl, .i k a, .i _ b => if b < 0 then none else some (.i k (k.wrap (a * 2 ^ (min b.toNat k.bits))))
  | .shr, .i k a, .i _ b => if b < 0 then none else some (.i k (a / 2 ^ (min b.toNat k.bits)))
  | op, .i k a, .i k' b => if k = k' then intOp op k a b else none
  | op, .s a, .s b => strOp op a b
  | .eql, x, y => (eqV P t x y).map .b
  | .neq, x, y => (eqV P t x y).map fun r => .b !r
  | _, _, _ => none
def unV : UnOp → V → Option V
  | .neg, .i k n => some (.i k (k.wrap (0 - n)))
  | .xor, .i k n => some (.i k (Go.bits .xor k (if k.signed then -1 else k.max) n))
  | .not, .b x => some (.b !x)
  | _, _ => none
def bytesV : List V → Option (List Int)
  | [] => some []
  | .i .u8 n :: r => (bytesV r).map (n :: ·)
  | _ => none
/-- the cells of a slice's first n elements of size sz -/
def sliceCells (h : Heap) (sz : Nat) : V → Option (Nat × List V)
  | .c (.slice none 0 0) => some (0, [])
  | .e0 => some (0, [])
  | .sl b o n z => if z = sz then (match hget h b with | ⟨0, _, _⟩ => none | ⟨_ + 1, _, c⟩ => match ldN c o (n * sz) with | some l => some (n, l) | none => none) else none
  | _ => none
def convV (P : Program) (h : Heap) (s d : TypeId) (x : V) : Option (V × Heap) := match P.underlying s, P.underlying d, x with
  | some _, some (.int k), .i _ n => some (.i k (k.wrap n), h)
  | some _, some .string, .s l => some (.s l, h)
  | some .string, some (.slice e), .s l => match P.underlying e with
    | some (.int .u8) => if l.length = 0 then some (.e0, h) else some (.sl h.length 0 l.length 1, h ++ [⟨2, false, l.map (.i .u8)⟩])
    | _ => none
  | some (.slice e), some .string, x => match P.underlying e with
    | some (.int .u8) => match sliceCells h 1 x with
      | some (_, l) => match bytesV l with | some l => some (.s l, h) | none => none
      | none => none
    | _ => none
  | _, _, _ => none
def idx (x : V) : Option Int := match x with | .i _ n => some n | _ => none
def optIdx (d : Int) : Option V → Option Int
  | none => some d
  | some (.i _ n) => some n
  | some _ => none
def cutV (P : Program) (t : TypeId) (x : V) (lo hi : Option V) : Option V := match P.underlying t, x with
  | some .string, .s l => match lo, hi with
    | none, none => some (.s l)
    | none, some (.i _ k) => if 0 ≤ k ∧ k ≤ (l.length : Int) then some (.s (l.take k.toNat)) else none
    | some (.i _ k), none => if 0 ≤ k ∧ k ≤ (l.length : Int) then some (.s (l.drop k.toNat)) else none
    | some (.i _ k), some (.i _ m) => if 0 ≤ k ∧ k ≤ m ∧ m ≤ (l.length : Int) then some (.s ((l.drop k.toNat).take (m.toNat - k.toNat))) else none
    | _, _ => none
  | some (.slice e), .sl b o n z => if z = P.cellsOf e ∧ 0 < z then (match lo, hi with
    | none, none => some (.sl b o n z)
    | none, some (.i _ k) => if 0 ≤ k ∧ k ≤ (n : Int) then some (.sl b o k.toNat z) else none
    | some (.i _ k), none => if 0 ≤ k ∧ k ≤ (n : Int) then some (.sl b (o + k.toNat * z) (n - k.toNat) z) else none
    | some (.i _ k), some (.i _ m) => if 0 ≤ k ∧ k ≤ m ∧ m ≤ (n : Int) then some (.sl b (o + k.toNat * z) (m.toNat - k.toNat) z) else none
    | _, _ => none) else none
  | _, _ => none
def off (x : V) (n : Nat) : Option V := match x with
  | .p b o => some (.p b (o + n))
  | .g m o => some (.g m (o + n))
  | _ => none
def indexAddrV (P : Program) (t : TypeId) (x i : V) : Option V := match P.underlying t, x, i with
  | some (.slice e), .sl b o n z, .i _ k => if 0 ≤ k ∧ k < (n : Int) ∧ z = P.cellsOf e ∧ 0 < z then some (.p b (o + k.toNat * z)) else none
  | some (.array n e), x, .i _ k => if 0 ≤ k ∧ k < (n : Int) ∧ 0 < P.cellsOf e then off x (k.toNat * P.cellsOf e) else none
  | _, _, _ => none
def partV (P : Program) (t : TypeId) (c : List V) (o : Nat) : Option V := match aggT P t with
  | some true => if o + P.cellsOf t ≤ c.length then some (.agg ((c.drop o).take (P.cellsOf t))) else none
  | some false => if o < c.length then some (get c o) else none
  | none => none
def indexV (P : Program) (t : TypeId) (x i : V) : Option V := match P.underlying t, x, i with
  | some .string, .s l, .i _ k => if 0 ≤ k ∧ k < (l.length : Int) then some (.i .u8 (l.getD k.toNat 0)) else none
  | some (.array n e), .agg c, .i _ k => if 0 ≤ k ∧ k < (n : Int) ∧ 0 < P.cellsOf e then partV P e c (k.toNat * P.cellsOf e) else none
  | _, _, _ => none
def fieldV (P : Program) (t : TypeId) (x : V) (f : Nat) : Option V := match x with
  | .agg c => match fieldsT P t with
    | some l => match l[f]? with | some f => partV P f.2.2 c f.1 | none => none
    | none => none
  | _ => none
def fieldAddrV (P : Program) (t : TypeId) (x : V) (f : Nat) : Option V := match fieldsT P t with
  | some l => match l[f]? with | some f => off x f.1 | none => none
  | none => none
def lenV (P : Program) (t : TypeId) (x : V) : Option V := match P.underlying t, x with
  | some .string, .s l => some (.i .i64 l.length)
  | some (.slice _), .sl _ _ n _ => some (.i .i64 n)
  | some (.slice _), .c (.slice none 0 0) => some (.i .i64 0)
  | some (.slice _), .e0 => some (.i .i64 0)
  | some (.map _ _), .c (.map none) => some (.i .i64 0)
  | some (.array n _), _ => if n ≤ 281474976710656 then some (.i .i64 n) else none
  | _, _ => none
def newV (h : Heap) (sz : Nat) (ut : TypeDesc) (x : V) : Option (Nat × List V) := match ut, x with
  | .string, .s l => some (l.length, l.map (.i .u8))
  | .slice _, x => sliceCells h sz x
  | _, _ => none
def appendV (P : Program) (h : Heap) (ts : List TypeId) (s x : V) : Option (V × Heap) := match ts with
  | [t, u] => match P.underlying t, P.underlying u with
    | some (.slice e), some ut =>
      match newV h (P.cellsOf e) ut x with
      | none => none
      | some (m, new) => if 0 < P.cellsOf e ∧ 0 < P.bytesOf e ∧ (zeroT P e).map List.length = some (P.cellsOf e) ∧ new.length = m * P.cellsOf e ∧ new.all isOne = true then
        (match s with
        | .c (.slice none 0 0) => if m * P.bytesOf e ≤ 1099511627776 then some (.sl h.length 0 m (P.cellsOf e), h ++ [⟨2, false, new⟩]) else none
        | .sl b o n z => if z = P.cellsOf e ∧ (n + m) * P.bytesOf e ≤ 1099511627776 then
          (match hget h b with
          | ⟨0, _, _⟩ => none
          | ⟨st + 1, ex, c⟩ => match ldN c o (n * z) with
            | none => none
            | some old =>
                (if st = 1 then some (.sl h.length 0 (n + m) z, h.set b dead ++ [⟨2, false, old ++ new⟩])
                 else if ex = true ∧ c.length < o + (n + m) * z then some (.sl h.length 0 (n + m) z, h ++ [⟨2, false, old ++ new⟩]) else none)) else none
        | _ => none) else none
    | _, _ => none
  | _ => none
/-- what is copied out of a row of no cells -/
def copyV (P : Program) (t : TypeId) (x y : V) : Option V := match P.underlying t, x, y with
  | some (.slice e), .sl _ _ _ _, .e0 => if (P.info? e).isSome = true then some (.i .i64 0) else none
  | _, _, _ => none
def min2V : V → V → Option V
  | .i k x, .i k' y => if k = k' then some (.i k (if y < x then y else x)) else none
  | _, _ => none
def max2V : V → V → Option V
  | .i k x, .i k' y => if k = k' then some (.i k (if y > x then y else x)) else none
  | _, _ => none
def makeSliceV (P : Program) (h : Heap) (t : TypeId) (l c : V) : Option (V × Heap) := match P.underlying t, l, c with
  | some (.slice e), .i _ l, .i _ c => match zeroT P e with
    | some z => if z.length = P.cellsOf e ∧ 0 < P.cellsOf e ∧ 0 ≤ l ∧ l ≤ c ∧ c ≤ 16777216 ∧ P.bytesOf e ≤ 16777216 then some (.sl h.length 0 l.toNat (P.cellsOf e), h ++ [⟨2, true, repL c.toNat z⟩]) else none
    | none => none
  | _, _, _ => none
def isNilSl : Operand → Bool
  | .const (.slice none 0 0) => true
  | _ => false
/-- is a slice's block there, with cells? -/
def hasC (h : Heap) (b n : Nat) : Bool := match n with
  | _ + 1 => true
  | 0 => match hget h b with | ⟨_ + 1, _, _ :: _⟩ => true | _ => false
/-- a slice beside nil -/
def nilV (P : Program) (h : Heap) (op : BinOp) (t : TypeId) (v : V) : Option V := match op, P.underlying t, v with
  | .eql, some (.slice _), .sl b _ n _ => if hasC h b n = true then some (.b false) else none
  | .neq, some (.slice _), .sl b _ n _ => if hasC h b n = true then some (.b true) else none
  | .eql, some (.slice _), .c (.slice none 0 0) => some (.b true)
  | .neq, some (.slice _), .c (.slice none 0 0) => some (.b false)
  | .eql, some (.slice _), .e0 => some (.b false)
  | .neq, some (.slice _), .e0 => some (.b true)
  | _, _, _ => none
/-- a variable is given a value; the nil slice becomes a row of one's own without cells -/
def assignV (P : Program) (h : Heap) (ty : TypeId) (x : Operand) (v : V) : Option (V × Heap) := if isNilSl x = true then (match P.underlying ty with
  | some (.slice e) => some (.sl h.length 0 0 (P.cellsOf e), h ++ [⟨2, false, []⟩])
  | _ => some (v, h)) else some (v, h)
/-- the method of a type behind an interface whose receiver is a pointer and is handed on as it is -/
def methB (P : Program) (t : TypeId) (name : String) : Option FuncId := match P.underlying t, P.info? t with
  | some (.pointer _), some i => match i.methods.find? (·.name == name) with
    | some m => match m.func with | some (f, true) => if m.path.toList = [] then some f else none | _ => none
    | none => none
  | _, _ => none
/-- what kinds of keys a map may have here -/
def keyD (P : Program) (t : TypeId) : Option TypeDesc := match P.underlying t with
  | some .bool => some .bool
  | some (.int k) => some (.int k)
  | some .string => some .string
  | _ => none
def findV (d : TypeDesc) (k : V) : List V → Nat → Option (Option (Nat × V))
  | [], _ => some none
  | .tup [k', v, _] :: l, i => match eqK d k k' with
    | some true => some (some (i, v))
    | some false => findV d k l (i + 1)
    | none => none
  | _, _ => none
def mapAt (h : Heap) (b : Nat) : Option (Nat × List V) := match hget h b with
  | ⟨0, true, .i .i64 c :: l⟩ => some (c.toNat, l)
  | _ => none
def zeroVT (P : Program) (t : TypeId) : Option V := match P.info? t with
  | some i => match i.zero with | some z => if okK z = true then some (cv z) else none | none => none
  | none => none
def entsV (h : Heap) (x : V) : Option (List V) := match x with
  | .c (.map none) => some []
  | .m b => (mapAt h b).map (·.2)
  | _ => none
def lookupV (P : Program) (h : Heap) (t : TypeId) (x k : V) (ok : Bool) : Option V := match P.underlying t with
  | some (.map kt et) => match keyD P kt with
    | some d => match entsV h x with
      | some l => match findV d k l 0 with
        | some (some (_, v)) => some (if ok then .tup [v, .b true] else v)
        | some none => (zeroVT P et).map fun z => if ok then .tup [z, .b false] else z
        | none => none
      | none => none
    | none => none
  | _ => none
def bornOf : V → Int | .tup [_, _, .i .i64 b] => b | _ => 0
def updateV (P : Program) (h : Heap) (t : TypeId) (x k v : V) : Option Heap := match P.underlying t, x with
  | some (.map kt _), .m b => match keyD P kt, mapAt h b with
    | some d, some (c, l) => match findV d k l 0 with
      | some (some (i, _)) => some (h.set b ⟨0, true, .i .i64 c :: l.set i (.tup [k, v, .i .i64 (bornOf (get l i))])⟩)
      | some none => some (h.set b ⟨0, true, .i .i64 ((c + 1 : Nat) : Int) :: (l ++ [.tup [k, v, .i .i64 c]])⟩)
      | none => none
    | _, _ => none
  | _, _ => none
/-- keys that are flat structs -/
def flatK (P : Program) (fs : List Field) : Bool := fs.all fun f => (match P.underlying f.type with | some .bool => true | some (.int _) => true | some .string => true | _ => false) && f.name != "_"
def structK (P : Program) (t : TypeId) (k : V) : Bool := match P.underlying t with
  | some (.struct fs) => flatK P fs.toList && (match eqV P t k k with | some true => true | _ => false)
  | _ => false
def findS (P : Program) (t : TypeId) (k : V) : List V → Nat → Option (Option (Nat × V))
  | [], _ => some none
  | .tup [k', v, _] :: l, i => match eqV P t k k' with
    | some true => some (some (i, v))
    | some false => findS P t k l (i + 1)
    | none => none
  | _, _ => none
def lookupS (P : Program) (h : Heap) (t : TypeId) (x k : V) (ok : Bool) : Option V := match P.underlying t with
  | some (.map kt et) => if structK P kt k = true then (match entsV h x with
      | some l => match findS P kt k l 0 with
        | some (some (_, v)) => some (if ok then .tup [v, .b true] else v)
        | some none => (zeroVT P et).map fun z => if ok then .tup [z, .b false] else z
        | none => none
      | none => none) else none
  | _ => none
def updateS (P : Program) (h : Heap) (t : TypeId) (x k v : V) : Option Heap := match P.underlying t, x with
  | some (.map kt _), .m b => if structK P kt k = true then (match mapAt h b with
    | some (c, l) => match findS P kt k l 0 with
      | some none => some (h.set b ⟨0, true, .i .i64 ((c + 1 : Nat) : Int) :: (l ++ [.tup [k, v, .i .i64 c]])⟩)
      | _ => none
    | _ => none) else none
  | _, _ => none
/-- an entry is laid, where the key is not there -/
def absentV (P : Program) (kt : TypeId) (k : V) (l : List V) : Bool := match keyD P kt with
  | some d => (match findV d k l 0 with | some none => true | _ => false)
  | none => structK P kt k && (match findS P kt k l 0 with | some none => true | _ => false)
def mentryV (P : Program) (h : Heap) (t : TypeId) (x k : V) : Option (V × Heap) := match P.underlying t, x with
  | some (.map kt et), .m b => match mapAt h b, zeroVT P et with
    | some (c, l), some z => if absentV P kt k l = true ∧ (c : Int) < 9223372036854775808 then some (.tup [z, .i .i64 c], h.set b ⟨0, true, .i .i64 ((c + 1 : Nat) : Int) :: (l ++ [.tup [k, z, .i .i64 c]])⟩) else none
    | _, _ => none
  | _, _ => none
def keyOfE : V → V | .tup [k, _, _] => k | _ => .junk
/-- an entry's value, by its stamp -/
def estoreV (h : Heap) (x s v : V) : Option Heap := match x, s with
  | .m b, .i .i64 n => match mapAt h b with
    | some (c, l) => match l.findIdx? (fun e => bornOf e == n) with
      | some i => some (h.set b ⟨0, true, .i .i64 c :: l.set i (.tup [keyOfE (get l i), v, .i .i64 (bornOf (get l i))])⟩)
      | none => none
    | none => none
  | _, _ => none
def deleteV (P : Program) (h : Heap) (t : TypeId) (x k : V) : Option Heap := match P.underlying t with
  | some (.map kt _) => match keyD P kt, x with
    | some _, .c (.map none) => some h
    | some d, .m b => match mapAt h b with
      | some (c, l) => match findV d k l 0 with
        | some (some (i, _)) => some (h.set b ⟨0, true, .i .i64 c :: l.eraseIdx i⟩)
        | some none => some h
        | none => none
      | none => none
    | _, _ => none
  | _ => none
def rangeV (P : Program) (h : Heap) (t : TypeId) (x : V) : Option (V × Heap) := match P.underlying t, x with
  | some (.map _ _), .c (.map none) => some (.p h.length 0, h ++ [⟨0, true, [.b false]⟩])
  | some (.map _ _), .m b => match mapAt h b with
    | some (c, _) => some (.p h.length 0, h ++ [⟨0, true, [.b true, .m b, .i .i64 c, .i .i64 c]⟩])
    | none => none
  | _, _ => none
def seenN (l : List V) : List Int := l.map fun | .i .i64 n => n | _ => -1
def nextV (h : Heap) (x : V) : Option (V × Heap) := match x with
  | .p b 0 => match hget h b with
    | ⟨0, true, [.b false]⟩ => some (.tup [.b false], h)
    | ⟨0, true, .b true :: .m m :: .i .i64 since :: .i .i64 last :: seen⟩ => match mapAt h m with
      | some (c, l) => if (!seen.isEmpty && !l.isEmpty && l.all fun e => decide (last ≤ bornOf e)) = true then none else
        match l.filter fun e => !(seenN seen).contains (bornOf e) with
        | [] => some (.tup [.b false], h)
        | [.tup [k, v, .i .i64 n]] => if n < since then some (.tup [.b true, k, v], h.set b ⟨0, true, .b true :: .m m :: .i .i64 since :: .i .i64 c :: (seen ++ [.i .i64 n])⟩) else none
        | _ => none
      | none => none
    | _ => none
  | _ => none
def entryV (h : Heap) (x : V) : Option V := match x with
  | .p b 0 => match hget h b with
    | ⟨0, true, .b true :: .m m :: .i .i64 _ :: .i .i64 last :: seen⟩ => match mapAt h m, seen.getLast? with
      | some (c, l), some (.i .i64 n) => if (c : Int) = last then (match l.find? fun e => bornOf e == n with | some (.tup [k, v, _]) => some (.tup [k, v]) | _ => none) else none
      | _, _ => none
    | _ => none
  | _ => none
/-- the length of a map -/
def lenM (P : Program) (h : Heap) (t : TypeId) (x : V) : Option V := match x with
  | .m b => match P.underlying t, mapAt h b with
    | some (.map _ _), some (_, l) => if l.length ≤ 281474976710656 then some (.i .i64 l.length) else none
    | _, _ => none
  | _ => none
/-- the nil slice cut, and its room -/
def cutN (P : Program) (t : TypeId) (x : V) (lo hi : Option V) : Option V := match x with
  | .c (.slice none 0 0) => match P.underlying t with
    | some (.slice e) => if 0 < P.cellsOf e then (match lo, hi with
      | none, some (.i _ 0) => some x
      | none, none => some x
      | some (.i _ 0), none => some x
      | some (.i _ 0), some (.i _ 0) => some x
      | _, _ => none) else none
    | _ => none
  | _ => none
def capV (P : Program) (t : TypeId) (x : V) : Option V := match P.underlying t, x with
  | some (.slice _), .c (.slice none 0 0) => some (.i .i64 0)
  | _, _ => none
/-- as many zeros behind nil -/
def appendZ (P : Program) (h : Heap) (ts : List TypeId) (s x : V) : Option (V × Heap) := match x with
  | .i .i64 n => match s, ts with
    | .c (.slice none 0 0), [t, u] => match P.underlying t, P.underlying u with
      | some (.slice e), some (.int _) => match zeroT P e with
        | some z => if 0 < n ∧ n ≤ 16777216 ∧ z.length = P.cellsOf e ∧ 0 < P.cellsOf e ∧ 0 < P.bytesOf e ∧ P.bytesOf e ≤ 65536 then some (.sl h.length 0 n.toNat (P.cellsOf e), h ++ [⟨2, false, repL n.toNat z⟩]) else none
        | none => none
      | _, _ => none
    | _, _ => none
  | _ => none
/-- is the nil slice kept as it is? (an entry 888888888 among the orders of one's own) -/
def nilKept (E : Env) : Bool := E.pm.any fun q => q.1 == 888888888
def op1 (E : Env) (ρ : Operand → V) (h : Heap) (o : Oper) : Option (V × Heap) := match o.op with
  | .move x => some (ρ x, h)
  | .assign x => if nilKept E = true then some (ρ x, h) else assignV E.P h o.type x (ρ x)
  | .pick c a b => match ρ c with | .b c => some (if c then ρ a else ρ b, h) | _ => none
  | .alloc t => match zeroT E.P t with | some z => some (.p h.length 0, h ++ [⟨2, true, z⟩]) | none => none
  | .box _ x => if (cellsV (ρ x)).all isOne then some (.p h.length 0, h ++ [⟨2, true, cellsV (ρ x)⟩]) else none
  | .build t ps => (buildV E.P t (ps.toList.map fun p => (p.1, ρ p.2))).map (·, h)
  | .buildSlice t n ps => buildSliceV E.P h t n (ps.toList.map fun p => (p.1, ρ p.2))
  | .load t a => (loadV E h t (ρ a)).map (·, h)
  | .store t a x => (storeV E h t (ρ a) (ρ x)).map (V.junk, ·)
  | .nilCheck x => match ρ x with | .p b o => some (.p b o, h) | .g m o => some (.g m o, h) | .f (.func f) c => some (.f (.func f) c, h) | _ => none
  | .binOp op t x y _ => if isNilSl y = true then (nilV E.P h op t (ρ x)).map (·, h) else (binV E.P op t (ρ x) (ρ y)).map (·, h)
  | .unOp op _ x => (unV op (ρ x)).map (·, h)
  | .convert s d x => convV E.P h s d (ρ x)
  | .makeFunc fn first cap => if first.size = 0 then some (.f fn (cap.toList.map ρ), h) else if cap.size = 0 then some (.bf fn (first.toList.map ρ), h) else none
  | .makeSlice t l c => makeSliceV E.P h t (ρ l) (ρ c)
  | .slice t x lo hi none => match cutV E.P t (ρ x) (lo.map ρ) (hi.map ρ) with | some v => some (v, h) | none => (cutN E.P t (ρ x) (lo.map ρ) (hi.map ρ)).map (·, h)
  | .fieldAddr t x f => (fieldAddrV E.P t (ρ x) f).map (·, h)
  | .field t x f => (fieldV E.P t (ρ x) f).map (·, h)
  | .indexAddr t x i => (indexAddrV E.P t (ρ x) (ρ i)).map (·, h)
  | .index t x i => (indexV E.P t (ρ x) (ρ i)).map (·, h)
  | .makeInterface t x => match E.P.underlying t with
    | some (.interface _) => none
    | some _ => some (.ifc t (ρ x), h)
    | none => none
  | .makeMap _ none => some (.m h.length, h ++ [⟨0, true, [.i .i64 0]⟩])
  | .lookup t x k ok => match lookupV E.P h t (ρ x) (ρ k) ok with | some v => some (v, h) | none => (lookupS E.P h t (ρ x) (ρ k) ok).map (·, h)
  | .mapUpdate t m k v => match updateV E.P h t (ρ m) (ρ k) (ρ v) with | some h' => some (.junk, h') | none => (updateS E.P h t (ρ m) (ρ k) (ρ v)).map (V.junk, ·)
  | .mapEntry t m k => mentryV E.P h t (ρ m) (ρ k)
  | .entryStore t m s v => (estoreV h (ρ m) (ρ s) (ρ v)).map (V.junk, ·)
  | .range t x => rangeV E.P h t (ρ x)
  | .next x false => nextV h (ρ x)
  | .entry x => (entryV h (ρ x)).map (·, h)
  | .extract x i => match ρ x with | .tup l => if i < l.length then some (get l i, h) else none | _ => none
  | .call c => match c.callee with
    | .value f => match ρ f with
      | .f (.func f) cap => E.call f (c.args.toList.map ρ ++ cap) h
      | .bf (.func f) fst => E.call f (fst ++ c.args.toList.map ρ) h
      | _ => none
    | .invoke r name => match ρ r with
      | .ifc t v => match methB E.P t name with
        | some f => E.call f (v :: c.args.toList.map ρ) h
        | none => none
      | _ => none
    | .builtin .len => match c.args.toList, c.argTypes.toList with | [x], [t] => (lenV E.P t (ρ x)).map (·, h) | _, _ => none
    | .builtin .append => match c.args.toList with | [s, x] => (match appendZ E.P h c.argTypes.toList (ρ s) (ρ x) with | some r => some r | none => appendV E.P h c.argTypes.toList (ρ s) (ρ x)) | _ => none
    | .builtin .cap => match c.args.toList, c.argTypes.toList with | [x], [t] => (capV E.P t (ρ x)).map (·, h) | _, _ => none
    | .builtin .delete => match c.args.toList, c.argTypes.toList with | [x, k], t :: _ => (deleteV E.P h t (ρ x) (ρ k)).map (V.junk, ·) | _, _ => none
    | .builtin .copy => match c.args.toList, c.argTypes.toList with | [x, y], t :: _ => (copyV E.P t (ρ x) (ρ y)).map (·, h) | _, _ => none
    | .builtin .min => match c.args.toList with | [x, y] => (min2V (ρ x) (ρ y)).map (·, h) | _ => none
    | .builtin .max => match c.args.toList with | [x, y] => (max2V (ρ x) (ρ y)).map (·, h) | _ => none
    | _ => none
  | _ => none
def wantV (ops : Array Oper) (t : Tm) (o : Oper) : Option Bool := match o.guard with
  | none => some true
  | some (j, w) => match (ops.toList[j]?).bind (·.dst) with
    | some d => match get t d with | .b x => some (x == w) | .c (.tuple _) => some false | _ => none
    | none => none
def put (t : Tm) (d : Option Nat) (v : V) : Tm := match d with | some d => set t d v | none => t
def ops1 (E : Env) (ops : Array Oper) : List Oper → Tm → Heap → Option (Tm × Heap)
  | [], t, h => some (t, h)
  | o :: os, t, h => match wantV ops t o with
    | some true => match op1 E (ev t) h o with
      | some (v, h') => ops1 E ops os (put t o.dst v) h'
      | none => none
    | some false => ops1 E ops os (put t o.dst (.c (.tuple #[]))) h
    | none => none
inductive Ex where | n | r | e (id : Nat)
def iter (f : Tm → Heap → Option (Ex × Tm × Heap)) : Nat → Tm → Heap → Option (Ex × Tm × Heap)
  | 0, _, _ => none
  | m + 1, t, h => match f t h with
    | some (.n, t', h') => iter f m t' h'
    | r => r
def eqC : Value → Value → Bool
  | .slice none 0 0, .slice none 0 0 => true
  | .pointer none, .pointer none => true
  | .map none, .map none => true
  | .nilFunc, .nilFunc => true
  | .nilIface, .nilIface => true
  | .tuple ⟨[]⟩, .tuple ⟨[]⟩ => true
  | _, _ => false
mutual
def beqV : V → V → Bool
  | .b x, .b y => x == y
  | .i k n, .i k' n' => k == k' && n == n'
  | .s l, .s l' => l == l'
  | .p b o, .p b' o' => b == b' && o == o'
  | .g b o, .g b' o' => b == b' && o == o'
  | .sl b o n z, .sl b' o' n' z' => b == b' && o == o' && n == n' && z == z'
  | .c v, .c v' => eqC v v'
  | .agg l, .agg l' => beqL l l'
  | .f f l, .f f' l' => decide (f = f') && beqL l l'
  | .ifc t v, .ifc t' v' => decide (t = t') && beqV v v'
  | .e0, .e0 => true
  | .ai k, .ai k' => k == k'
  | .bf f l, .bf f' l' => decide (f = f') && beqL l l'
  | .m b, .m b' => b == b'
  | .tup l, .tup l' => beqL l l'
  | .junk, .junk => true
  | _, _ => false
def beqL : List V → List V → Bool
  | [], [] => true
  | x :: l, y :: l' => beqV x y && beqL l l'
  | _, _ => false
end
def beqH : Heap → Heap → Bool
  | [], [] => true
  | b :: h, b' :: h' => b.st == b'.st && b.x == b'.x && beqL b.cells b'.cells && beqH h h'
  | _, _ => false
structure Loc where
  block : Nat
  off : Nat
  cap : Nat
def Str (l : List Int) : Prop := (∀ x ∈ l, 0 ≤ x ∧ x < 256) ∧ l.length ≤ 281474976710656
mutual
inductive R (r : List (Option Loc)) : V → Value → Prop
  | junk (x : Value) : R r .junk x
  | b (x : Bool) : R r (.b x) (.bool x)
  | i (k : IntKind) (n : Int) (h : k.wrap n = n) : R r (.i k n) (.int k n)
  | s (l : List Int) (h : Str l) : R r (.s l) (.string (toBA l))
  | p (b o : Nat) (L : Loc) (h : r[b]? = some (some L)) : R r (.p b o) (.pointer (some ⟨L.block, L.off + o, none⟩))
  | g (m o : Nat) : R r (.g m o) (.pointer (some ⟨m, o, none⟩))
  | sl (b o n z c : Nat) (L : Loc) (h : r[b]? = some (some L)) (hc : o + c * z = L.cap) (hn : n ≤ c) (hb : n ≤ 281474976710656) : R r (.sl b o n z) (.slice (some ⟨L.block, L.off + o, none⟩) n c)
  | s0 (b o z : Nat) (a : Addr) (y : Option Loc) (h : r[b]? = some y) : R r (.sl b o 0 z) (.slice (some a) 0 0)
  | sn (b z : Nat) (h : r[b]? = some none) : R r (.sl b 0 0 z) (.slice none 0 0)
  | c (v : Value) : R r (.c v) v
  | agg (l : List V) (xs : List Value) (h : RL r l xs) : R r (.agg l) (.agg xs.toArray)
  | tup (l : List V) (xs : List Value) (h : RL r l xs) : R r (.tup l) (.tuple xs.toArray)
  | f (fn : Fn) (l : List V) (xs : List Value) (h : RL r l xs) : R r (.f fn l) (.func fn #[] xs.toArray)
  | ifc (t : TypeId) (v : V) (x : Value) (h : R r v x) : R r (.ifc t v) (.iface t x)
  | e0 (a : Addr) (c : Nat) : R r .e0 (.slice (some a) 0 c)
  | ai (k : IntKind) (n : Int) (h : k.wrap n = n) : R r (.ai k) (.int k n)
  | bf (fn : Fn) (l : List V) (xs : List Value) (h : RL r l xs) : R r (.bf fn l) (.func fn xs.toArray #[])
  | m (b : Nat) (L : Loc) (h : r[b]? = some (some L)) : R r (.m b) (.map (some L.block))
inductive RL (r : List (Option Loc)) : List V → List Value → Prop
  | nil : RL r [] []
  | cons {v : V} {x : Value} {l : List V} {xs : List Value} (h : R r v x) (t : RL r l xs) : RL r (v :: l) (x :: xs)
end
theorem getElem?_pre {α : Type} {r r' : List α} (h : r <+: r') {i : Nat} {x : α} (hi : r[i]? = some x) : r'[i]? = some x := by
  obtain ⟨t, rfl⟩ := h
  rw [List.getElem?_append_left (by obtain ⟨h, _⟩ := List.getElem?_eq_some_iff.1 hi; exact h)]; exact hi
mutual
theorem R.mono {r r' : List (Option Loc)} (hp : r <+: r') : ∀ {v : V} {x : Value}, R r v x → R r' v x
  | _, _, .junk x => .junk x
  | _, _, .b x => .b x
  | _, _, .i k n h => .i k n h
  | _, _, .s l h => .s l h
  | _, _, .p b o L h => .p b o L (getElem?_pre hp h)
  | _, _, .g m o => .g m o
  | _, _, .sl b o n z c L h hc hn hb => .sl b o n z c L (getElem?_pre hp h) hc hn hb
  | _, _, .s0 b o z a y h => .s0 b o z a y (getElem?_pre hp h)
  | _, _, .sn b z h => .sn b z (getElem?_pre hp h)
  | _, _, .c v => .c v
  | _, _, .agg l xs h => .agg l xs (RL.mono hp h)
  | _, _, .tup l xs h => .tup l xs (RL.mono hp h)
  | _, _, .f fn l xs h => .f fn l xs (RL.mono hp h)
  | _, _, .ifc t v x h => .ifc t v x (R.mono hp h)
  | _, _, .e0 a c => .e0 a c
  | _, _, .ai k n h => .ai k n h
  | _, _, .bf fn l xs h => .bf fn l xs (RL.mono hp h)
  | _, _, .m b L h => .m b L (getElem?_pre hp h)
theorem RL.mono {r r' : List (Option Loc)} (hp : r <+: r') : ∀ {l : List V} {xs : List Value}, RL r l xs → RL r' l xs
  | _, _, .nil => .nil
  | _, _, .cons h t => .cons (R.mono hp h) (RL.mono hp t)
end
/-- a value that stood under a smaller naming, and stands under a greater one: it stands so under the smaller -/
theorem R.back {r r' : List (Option Loc)} (hp : r <+: r') {v : V} {x : Value} (h : R r' v x) : ∀ (x0 : Value), R r v x0 → R r v x := by
  have pre : ∀ {i : Nat} {a b : Option Loc}, r[i]? = some a → r'[i]? = some b → a = b := fun h1 h2 => by
    have := getElem?_pre hp h1; rw [this] at h2; exact Option.some.inj h2
  refine R.rec (motive_1 := fun v x _ => ∀ (x0 : Value), R r v x0 → R r v x) (motive_2 := fun l xs _ => ∀ (xs0 : List Value), RL r l xs0 → RL r l xs) ?_ ?_ ?_ ?_ ?_ ?_ ?_ ?_ ?_ ?_ ?_ ?_ ?_ ?_ ?_ ?_ ?_ ?_ ?_ ?_ h
  · intro x x0 _; exact .junk x
  · intro x x0 _; exact .b x
  · intro k n h x0 _; exact .i k n h
  · intro l h x0 _; exact .s l h
  · intro b o L hL x0 h0
    cases h0 with
    | p _ _ L0 h0 => obtain rfl := Option.some.inj (pre h0 hL); exact .p b o L0 h0
  · intro m o x0 _; exact .g m o
  · intro b o n z c L hL hc hn hb x0 h0
    cases h0 with
    | sl _ _ _ _ c0 L0 h0 _ _ _ => obtain rfl := Option.some.inj (pre h0 hL); exact .sl b o n z c L0 h0 hc hn hb
    | s0 _ _ _ a y h0 => obtain rfl := pre h0 hL; exact .sl b o _ z c L h0 hc hn hb
    | sn _ _ h0 => have := pre h0 hL; simp at this
  · intro b o z a y hy x0 h0
    cases h0 with
    | sl _ _ _ _ c0 L0 h0 _ _ _ => exact .s0 b o z a _ h0
    | s0 _ _ _ a y h0 => exact .s0 b o z _ _ h0
    | sn _ _ h0 => exact .s0 b _ z _ _ h0
  · intro b z hb x0 h0
    cases h0 with
    | sl _ _ _ _ c0 L0 h0 _ _ _ => have := pre h0 hb; simp at this
    | s0 _ _ _ a y h0 => obtain rfl := pre h0 hb; exact .sn b z h0
    | sn _ _ h0 => exact .sn b z h0
  · intro v x0 _; exact .c v
  · intro l xs h ih x0 h0
    cases h0 with
    | agg _ xs0 h0 => exact .agg l xs (ih _ h0)
  · intro l xs h ih x0 h0
    cases h0 with
    | tup _ xs0 h0 => exact .tup l xs (ih _ h0)
  · intro fn l xs h ih x0 h0
    cases h0 with
    | f _ _ xs0 h0 => exact .f fn l xs (ih _ h0)
  · intro t v x h ih x0 h0
    cases h0 with
    | ifc _ _ x0 h0 => exact .ifc t v x (ih _ h0)
  · intro a c x0 _; exact .e0 a c
  · intro k n h x0 _; exact .ai k n h
  · intro fn l xs h ih x0 h0
    cases h0 with
    | bf _ _ xs0 h0 => exact .bf fn l xs (ih _ h0)
  · intro b L hL x0 h0
    cases h0 with
    | m _ L0 h0 => obtain rfl := Option.some.inj (pre h0 hL); exact .m b L0 h0
  · intro xs0 _; exact .nil
  · intro v x l xs h t ihv ihl xs0 h0
    cases h0 with
    | cons hv ht => exact .cons (ihv _ hv) (ihl _ ht)

theorem get_nil (i : Nat) : get [] i = .junk := by cases i <;> rfl
theorem get_set (t : Tm) (i j : Nat) (v : V) : get (set t i v) j = if i = j then v else get t j := by
  induction t generalizing i j with
  | nil =>
    induction i generalizing j with
    | zero => cases j <;> simp [get, set]
    | succ i ih => cases j <;> simp [get, set, ih]
  | cons x t ih => cases i <;> cases j <;> simp [get, set, ih]
theorem get_eq (t : Tm) : ∀ (i : Nat), get t i = t.getD i .junk := by
  induction t with
  | nil => intro i; simp [get_nil]
  | cons x t ih => intro i; cases i <;> simp [get, ih]
theorem get_append_left {l m : List V} {i : Nat} (h : i < l.length) : get (l ++ m) i = get l i := by
  rw [get_eq, get_eq, List.getD_eq_getElem?_getD, List.getD_eq_getElem?_getD, List.getElem?_append_left h]
theorem RL.length {r : List (Option Loc)} : ∀ {l : List V} {xs : List Value}, RL r l xs → xs.length = l.length
  | _, _, .nil => rfl
  | _, _, .cons _ t => by simp [t.length]
theorem RL.at {r : List (Option Loc)} : ∀ {l : List V} {xs : List Value}, RL r l xs → ∀ {i : Nat} {x : Value}, xs[i]? = some x → R r (get l i) x
  | _, _, .nil, i, x, h => by simp at h
  | _, _, .cons hv t, i, x, h => by
    cases i with
    | zero => simp at h; subst h; exact hv
    | succ i => exact t.at (by simpa using h)
theorem RL.get? {r : List (Option Loc)} {l : List V} {xs : List Value} (h : RL r l xs) {i : Nat} {v : V} (hv : l[i]? = some v) : ∃ x, xs[i]? = some x ∧ R r v x := by
  have hl := h.length
  obtain ⟨hi, hg⟩ := List.getElem?_eq_some_iff.1 hv
  have hx : xs[i]? = some xs[i] := List.getElem?_eq_getElem (by omega)
  refine ⟨_, hx, ?_⟩
  have := h.at hx
  rw [get_eq, List.getD_eq_getElem?_getD, hv] at this
  exact this
theorem RL.of {r : List (Option Loc)} : ∀ {l : List V} {xs : List Value}, xs.length = l.length → (∀ (i : Nat) v x, l[i]? = some v → xs[i]? = some x → R r v x) → RL r l xs
  | [], [], _, _ => .nil
  | v :: l, x :: xs, h, hh => .cons (hh 0 v x rfl rfl) (RL.of (by simpa using h) fun i v x h1 h2 => hh (i + 1) v x h1 h2)
  | [], _ :: _, h, _ => by simp at h
  | _ :: _, [], h, _ => by simp at h
theorem RL.append {r : List (Option Loc)} : ∀ {l : List V} {xs : List Value}, RL r l xs → ∀ {m : List V} {ys : List Value}, RL r m ys → RL r (l ++ m) (xs ++ ys)
  | _, _, .nil, _, _, h => h
  | _, _, .cons hv t, _, _, h => .cons hv (t.append h)
theorem RL.take {r : List (Option Loc)} {l : List V} {xs : List Value} (h : RL r l xs) (n : Nat) : RL r (l.take n) (xs.take n) :=
  RL.of (by simp [h.length]) fun i v x h1 h2 => by
    rw [List.getElem?_take] at h1 h2
    split at h1
    · rename_i hi; rw [if_pos hi] at h2
      obtain ⟨y, hy, hr⟩ := h.get? h1
      rw [hy] at h2; obtain rfl := Option.some.inj h2; exact hr
    · cases h1
theorem RL.drop {r : List (Option Loc)} {l : List V} {xs : List Value} (h : RL r l xs) (n : Nat) : RL r (l.drop n) (xs.drop n) :=
  RL.of (by simp [h.length]) fun i v x h1 h2 => by
    rw [List.getElem?_drop] at h1 h2
    obtain ⟨y, hy, hr⟩ := h.get? h1
    rw [hy] at h2; obtain rfl := Option.some.inj h2; exact hr
theorem RL.set {r : List (Option Loc)} : ∀ {l : List V} {xs : List Value}, RL r l xs → ∀ {v : V} {x : Value}, R r v x → ∀ (i : Nat), RL r (l.set i v) (xs.set i x)
  | _, _, .nil, _, _, _, _ => .nil
  | _, _, .cons hv t, _, _, h, 0 => .cons h t
  | _, _, .cons hv t, _, _, h, i + 1 => .cons hv (t.set h i)
def BlkOk (r : List (Option Loc)) (H : Array Obj) (b : Blk) : Option Loc → Prop
  | none => b.cells = [] ∨ b.st = 0
  | some L => b.st = 0 ∨ ∃ c e fz, H[L.block]? = some (.cells c e fz) ∧ (∀ (j : Nat) v, b.cells[j]? = some v → ∃ x, c[L.off + j]? = some x ∧ R r v x) ∧ (b.x = true → L.cap = b.cells.length) ∧
      (b.st = 2 → L.off + L.cap ≤ c.size ∧ b.cells.length ≤ L.cap ∧ ∀ q, L.off ≤ q → q < L.off + L.cap → ¬ (fz.1 ≤ q ∧ q < fz.2))
/-- a map's entries -/
inductive ER (r : List (Option Loc)) : List V → List MapEntry → Prop
  | nil : ER r [] []
  | cons {k v : V} {e : MapEntry} {l : List V} {es : List MapEntry} (hk : R r k e.key) (hv : R r v e.val) (t : ER r l es) : ER r (.tup [k, v, .i .i64 e.born] :: l) (e :: es)
theorem ER.mono {r r' : List (Option Loc)} (hp : r <+: r') : ∀ {l : List V} {es : List MapEntry}, ER r l es → ER r' l es
  | _, _, .nil => .nil
  | _, _, .cons hk hv t => .cons (hk.mono hp) (hv.mono hp) (t.mono hp)
def borns (l : List Nat) : List V := l.map fun (n : Nat) => V.i .i64 (n : Int)
def MapOk (r : List (Option Loc)) (H : Array Obj) (L : Loc) (c : List V) : Prop :=
  (∃ (es : Array MapEntry) (clock : Nat) (l : List V), c = .i .i64 clock :: l ∧ H[L.block]? = some (.map es clock) ∧ ER r l es.toList) ∨
  (∃ (b : Nat) (Lb : Loc) (since last : Nat) (seen : List Nat), c = .b true :: .m b :: .i .i64 since :: .i .i64 last :: borns seen ∧ r[b]? = some (some Lb) ∧ H[L.block]? = some (.mapIter (some Lb.block) since seen.toArray last) ∧ L.off = 0) ∨
  (c = [.b false] ∧ L.off = 0 ∧ ∃ since seen last, H[L.block]? = some (.mapIter none since seen last))
theorem MapOk.mono {r r' : List (Option Loc)} (hp : r <+: r') {H : Array Obj} {L : Loc} {c : List V} (h : MapOk r H L c) : MapOk r' H L c := by
  rcases h with ⟨es, clock, l, h1, h2, h3⟩ | ⟨b, Lb, since, last, seen, h1, h2, h3⟩ | h
  · exact .inl ⟨es, clock, l, h1, h2, h3.mono hp⟩
  · exact .inr (.inl ⟨b, Lb, since, last, seen, h1, getElem?_pre hp h2, h3⟩)
  · exact .inr (.inr h)
theorem MapOk.heap {r : List (Option Loc)} {H H' : Array Obj} {L : Loc} {c : List V} (h : MapOk r H L c) (hh : H'[L.block]? = H[L.block]?) : MapOk r H' L c := by
  unfold MapOk at h ⊢
  rw [hh]; exact h
theorem MapOk.lt {r : List (Option Loc)} {H : Array Obj} {L : Loc} {c : List V} (h : MapOk r H L c) : L.block < H.size := by
  rcases h with ⟨es, clock, l, h1, h2, h3⟩ | ⟨b, Lb, since, last, seen, h1, h2, h3⟩ | ⟨_, _, s, n, l, h3⟩
  · exact (Array.getElem?_eq_some_iff.1 h2).1
  · exact (Array.getElem?_eq_some_iff.1 h3.1).1
  · exact (Array.getElem?_eq_some_iff.1 h3).1
structure HR (G : Nat → List V) (r : List (Option Loc)) (h : Heap) (H : Array Obj) : Prop where
  len : r.length = h.length
  blk : ∀ (i : Nat) (b : Blk) (y : Option Loc), h[i]? = some b → r[i]? = some y → BlkOk r H b y
  st : ∀ (i : Nat) (b : Blk), h[i]? = some b → b.st ≤ 2
  uniq : ∀ (i j : Nat) (b b' : Blk) (L L' : Loc), h[i]? = some b → h[j]? = some b' → Own b → Live b' → i ≠ j → r[i]? = some (some L) → r[j]? = some (some L') → L.block ≠ L'.block
  glob : ∀ g, G g ≠ [] → ∃ c e fz, H[g]? = some (.cells c e fz) ∧ ∀ (j : Nat) (v : V), (G g)[j]? = some v → ∃ x, c[j]? = some x ∧ R [] v x
  globn : ∀ g, G g ≠ [] → ∀ (i : Nat) (b : Blk) (L : Loc), h[i]? = some b → Own b → r[i]? = some (some L) → L.block ≠ g
  maps : ∀ (i : Nat) (b : Blk) (y : Option Loc), h[i]? = some b → b.st = 0 → b.x = true → r[i]? = some y → ∃ L, y = some L ∧ MapOk r H L b.cells
structure Keep (r0 : List (Option Loc)) (h0 : Heap) (w0 : World) (r : List (Option Loc)) (h : Heap) (w : World) : Prop where
  pre : r0 <+: r
  size : w0.heap.size ≤ w.heap.size
  os : w.os = w0.os
  tape : w.tape = w0.tape
  output : w.output = w0.output
  block : ∀ k, k < w0.heap.size → (∀ (i : Nat) (b : Blk) (L : Loc), h0[i]? = some b → Own b → r0[i]? = some (some L) → L.block ≠ k) → w.heap[k]? = w0.heap[k]?
  own : ∀ (i : Nat) (b : Blk) (L : Loc), h[i]? = some b → Own b → r[i]? = some (some L) → L.block < w0.heap.size → ∃ (j : Nat) (b' : Blk) (L' : Loc), h0[j]? = some b' ∧ Own b' ∧ r0[j]? = some (some L') ∧ L'.block = L.block
theorem Keep.refl (r : List (Option Loc)) (h : Heap) (w : World) : Keep r h w r h w :=
  ⟨List.prefix_refl _, Nat.le_refl _, rfl, rfl, rfl, fun _ _ _ => rfl, fun i b L h1 h2 h3 _ => ⟨i, b, L, h1, h2, h3, rfl⟩⟩
theorem Keep.trans {r0 r1 r2 : List (Option Loc)} {h0 h1 h2 : Heap} {w0 w1 w2 : World} (a : Keep r0 h0 w0 r1 h1 w1) (b : Keep r1 h1 w1 r2 h2 w2) : Keep r0 h0 w0 r2 h2 w2 where
  pre := a.pre.trans b.pre
  size := Nat.le_trans a.size b.size
  os := b.os.trans a.os
  tape := b.tape.trans a.tape
  output := b.output.trans a.output
  block k hk hn := by
    rw [b.block k (by have := a.size; omega) ?_, a.block k hk hn]
    intro i b' L h1 h2 h3 e
    obtain ⟨j, b'', L', h4, h5, h6, h7⟩ := a.own i b' L h1 h2 h3 (by omega)
    exact hn j b'' L' h4 h5 h6 (by omega)
  own i b' L h1 h2 h3 h4 := by
    obtain ⟨j, b'', L', h5, h6, h7, h8⟩ := b.own i b' L h1 h2 h3 (by have := a.size; omega)
    obtain ⟨k, b3, L3, h9, h10, h11, h12⟩ := a.own j b'' L' h5 h6 h7 (by omega)
    exact ⟨k, b3, L3, h9, h10, h11, by omega⟩
theorem BlkOk.mono {r r' : List (Option Loc)} (hp : r <+: r') {H : Array Obj} {b : Blk} {y : Option Loc} (h : BlkOk r H b y) : BlkOk r' H b y := by
  cases y with
  | none => exact h
  | some L =>
    rcases h with h | ⟨c, e, fz, h1, h2, h3, h4⟩
    · exact .inl h
    · exact .inr ⟨c, e, fz, h1, fun j v hj => let ⟨x, a, b⟩ := h2 j v hj; ⟨x, a, b.mono hp⟩, h3, h4⟩
theorem BlkOk.heap {r : List (Option Loc)} {H H' : Array Obj} {b : Blk} {y : Option Loc} (h : BlkOk r H b y) (hh : ∀ L, y = some L → b.st ≠ 0 → H'[L.block]? = H[L.block]?) : BlkOk r H' b y := by
  cases y with
  | none => exact h
  | some L =>
    rcases h with h | ⟨c, e, fz, h1, h2, h3, h4⟩
    · exact .inl h
    · by_cases h0 : b.st = 0
      · exact .inl h0
      · exact .inr ⟨c, e, fz, (hh L rfl h0).trans h1, h2, h3, h4⟩
theorem HR.kill {G : Nat → List V} {r : List (Option Loc)} {h : Heap} {H : Array Obj} (hr : HR G r h H) (i : Nat) : HR G r (h.set i dead) H := by
  have key : ∀ {j : Nat} {b : Blk}, (h.set i dead)[j]? = some b → b = dead ∨ h[j]? = some b := by
    intro j b hj
    rw [List.getElem?_set] at hj
    split at hj
    · split at hj
      · exact .inl (Option.some.inj hj).symm
      · cases hj
    · exact .inr hj
  refine ⟨by simp [hr.len], ?_, ?_, ?_, hr.glob, ?_, ?_⟩
  · intro j b y h1 h2
    rcases key h1 with rfl | h1
    · cases y with
      | none => exact .inr rfl
      | some L => exact .inl rfl
    · exact hr.blk j b y h1 h2
  · intro j b h1
    rcases key h1 with rfl | h1
    · simp [dead]
    · exact hr.st j b h1
  · intro j k b b' L L' h1 h2 h3 h4
    rcases key h1 with rfl | h1
    · exact absurd h3 own_dead
    rcases key h2 with rfl | h2
    · exact absurd h4 live_dead
    exact hr.uniq j k b b' L L' h1 h2 h3 h4
  · intro g hg j b L h1 h2
    rcases key h1 with rfl | h1
    · exact absurd h2 own_dead
    exact hr.globn g hg j b L h1 h2
  · intro j b y h1 h2 h3 h4
    rcases key h1 with rfl | h1
    · cases h3
    exact hr.maps j b y h1 h2 h3 h4
theorem HR.heap {G : Nat → List V} {r : List (Option Loc)} {h : Heap} {H H' : Array Obj} (hr : HR G r h H) (hh : ∀ (i : Nat) (b : Blk) (L : Loc), h[i]? = some b → Live b → r[i]? = some (some L) → H'[L.block]? = H[L.block]?)
    (hg : ∀ g, G g ≠ [] → H'[g]? = H[g]?) : HR G r h H' where
  len := hr.len
  blk i b y h1 h2 := (hr.blk i b y h1 h2).heap fun L e h0 => hh i b L h1 (.inl h0) (by rw [h2, e])
  st := hr.st
  uniq := hr.uniq
  glob g h := by obtain ⟨c, e, fz, h1, h2⟩ := hr.glob g h; exact ⟨c, e, fz, (hg g h).trans h1, h2⟩
  globn := hr.globn
  maps i b y h1 h2 h3 h4 := by
    obtain ⟨L, rfl, h5⟩ := hr.maps i b y h1 h2 h3 h4
    exact ⟨L, rfl, h5.heap (hh i b L h1 (.inr h3) h4)⟩
theorem getElem?_snoc {α : Type} {l : List α} {x y : α} {i : Nat} (h : (l ++ [x])[i]? = some y) : l[i]? = some y ∨ (i = l.length ∧ y = x) := by
  rw [List.getElem?_append] at h
  split at h
  · exact .inl h
  · rename_i hi
    right
    have : i - l.length = 0 := by
      rcases Nat.eq_zero_or_pos (i - l.length) with e | e
      · exact e
      · rw [List.getElem?_eq_none (by simp; omega)] at h; cases h
    rw [this] at h
    exact ⟨by omega, by simpa using h.symm⟩
theorem HR.add {G : Nat → List V} {r : List (Option Loc)} {h : Heap} {H : Array Obj} (hr : HR G r h H) {b : Blk} {y : Option Loc} (hb : BlkOk r H b y) (hs : b.st ≤ 2)
    (hu : ∀ (i : Nat) (b' : Blk) (L L' : Loc), y = some L → h[i]? = some b' → Live b' → r[i]? = some (some L') → L.block ≠ L'.block) (hg : ∀ g L, G g ≠ [] → y = some L → L.block ≠ g) (hm : b.st = 0 → b.x = true → ∃ L, y = some L ∧ MapOk r H L b.cells := by intro h; first | (simp at h; done) | omega) : HR G (r ++ [y]) (h ++ [b]) H := by
  have hp : r <+: r ++ [y] := List.prefix_append _ _
  have hl := hr.len
  have lt : ∀ {i : Nat} {b : Blk}, h[i]? = some b → i < h.length := fun h => (List.getElem?_eq_some_iff.1 h).1
  have rlt : ∀ {i : Nat} {x : Option Loc}, i < h.length → (r ++ [y])[i]? = some x → r[i]? = some x := fun hi h => by
    rwa [List.getElem?_append_left (by omega)] at h
  have rnew : ∀ {x : Option Loc}, (r ++ [y])[h.length]? = some x → x = y := fun h => by
    rw [← hl] at h; simpa using h.symm
  refine ⟨by simp [hl], ?_, ?_, ?_, hr.glob, ?_, ?_⟩
  · intro i b' y' h1 h2
    rcases getElem?_snoc h1 with h1 | ⟨rfl, rfl⟩
    · exact (hr.blk i b' y' h1 (rlt (lt h1) h2)).mono hp
    · rw [rnew h2]; exact hb.mono hp
  · intro i b' h1
    rcases getElem?_snoc h1 with h1 | ⟨rfl, rfl⟩
    · exact hr.st i b' h1
    · exact hs
  · intro i j b1 b2 L1 L2 h1 h2 h3 h4 h5 h6 h7
    rcases getElem?_snoc h1 with e1 | ⟨rfl, rfl⟩ <;> rcases getElem?_snoc h2 with e2 | ⟨rfl, rfl⟩
    · exact hr.uniq i j b1 b2 L1 L2 e1 e2 h3 h4 h5 (rlt (lt e1) h6) (rlt (lt e2) h7)
    · exact Ne.symm (hu i b1 L2 L1 (rnew h7).symm e1 h3.live (rlt (lt e1) h6))
    · exact hu j b2 L1 L2 (rnew h6).symm e2 h4 (rlt (lt e2) h7)
    · exact absurd rfl h5
  · intro g hg' i b' L h1 h2 h3
    rcases getElem?_snoc h1 with h1 | ⟨rfl, rfl⟩
    · exact hr.globn g hg' i b' L h1 h2 (rlt (lt h1) h3)
    · exact hg g L hg' (rnew h3).symm
  · intro i b' y' h1 h2 h3 h4
    rcases getElem?_snoc h1 with h1 | ⟨rfl, rfl⟩
    · obtain ⟨L, e, h5⟩ := hr.maps i b' y' h1 h2 h3 (rlt (lt h1) h4)
      exact ⟨L, e, h5.mono hp⟩
    · obtain ⟨L, e, h5⟩ := hm h2 h3
      exact ⟨L, by rw [rnew h4, e], h5.mono hp⟩
theorem HR.revive {G : Nat → List V} {r : List (Option Loc)} {h : Heap} {H : Array Obj} (hr : HR G r h H) {b : Blk} {i : Nat} {y : Option Loc} (hi : r[i]? = some y) (hb : BlkOk r H b y) (hs : b.st ≤ 2)
    (hu : ∀ (j : Nat) (b' : Blk) (L L' : Loc), y = some L → j ≠ i → h[j]? = some b' → Live b' → r[j]? = some (some L') → L.block ≠ L'.block) (hg : ∀ g L, G g ≠ [] → y = some L → L.block ≠ g) (hm : b.st = 0 → b.x = true → ∃ L, y = some L ∧ MapOk r H L b.cells := by intro h; first | (simp at h; done) | omega) : HR G r (h.set i b) H := by
  have key : ∀ {j : Nat} {b' : Blk}, (h.set i b)[j]? = some b' → (j = i ∧ b' = b) ∨ (j ≠ i ∧ h[j]? = some b') := by
    intro j b' hj
    rw [List.getElem?_set] at hj
    split at hj
    · rename_i e
      split at hj
      · exact .inl ⟨e.symm, (Option.some.inj hj).symm⟩
      · cases hj
    · rename_i e; exact .inr ⟨fun h => e h.symm, hj⟩
  refine ⟨by simp [hr.len], ?_, ?_, ?_, hr.glob, ?_, ?_⟩
  · intro j b' y' h1 h2
    rcases key h1 with ⟨rfl, rfl⟩ | ⟨_, h1⟩
    · rw [hi] at h2; obtain rfl := Option.some.inj h2; exact hb
    · exact hr.blk j b' y' h1 h2
  · intro j b' h1
    rcases key h1 with ⟨rfl, rfl⟩ | ⟨_, h1⟩
    · exact hs
    · exact hr.st j b' h1
  · intro j k b1 b2 L1 L2 h1 h2 h3 h4 h5 h6 h7
    rcases key h1 with ⟨rfl, rfl⟩ | ⟨n1, e1⟩ <;> rcases key h2 with ⟨rfl, rfl⟩ | ⟨n2, e2⟩
    · exact absurd rfl h5
    · rw [hi] at h6; exact hu k b2 L1 L2 (Option.some.inj h6) n2 e2 h4 h7
    · rw [hi] at h7; exact Ne.symm (hu j b1 L2 L1 (Option.some.inj h7) n1 e1 h3.live h6)
    · exact hr.uniq j k b1 b2 L1 L2 e1 e2 h3 h4 h5 h6 h7
  · intro g hg' j b' L h1 h2 h3
    rcases key h1 with ⟨rfl, rfl⟩ | ⟨_, h1⟩
    · rw [hi] at h3; exact hg g L hg' (Option.some.inj h3)
    · exact hr.globn g hg' j b' L h1 h2 h3
  · intro j b' y' h1 h2 h3 h4
    rcases key h1 with ⟨rfl, rfl⟩ | ⟨_, h1⟩
    · rw [hi] at h4; obtain rfl := Option.some.inj h4; exact hm h2 h3
    · exact hr.maps j b' y' h1 h2 h3 h4
theorem HR.lt {G : Nat → List V} {r : List (Option Loc)} {h : Heap} {H : Array Obj} (hr : HR G r h H) {i : Nat} {b : Blk} {L : Loc} (h1 : h[i]? = some b) (h0 : Live b) (h2 : r[i]? = some (some L)) : L.block < H.size := by
  rcases hr.blk i b _ h1 h2 with h | ⟨c, e, fz, h3, _⟩
  · rcases h0 with h0 | h0
    · exact absurd h h0
    · obtain ⟨L', e, h5⟩ := hr.maps i b _ h1 h h0 h2
      obtain rfl := Option.some.inj e
      exact h5.lt
  · obtain ⟨h4, _⟩ := Array.getElem?_eq_some_iff.1 h3; exact h4
theorem HR.glt {G : Nat → List V} {r : List (Option Loc)} {h : Heap} {H : Array Obj} (hr : HR G r h H) {g : Nat} (hg : G g ≠ []) : g < H.size := by
  obtain ⟨c, e, fz, h3, _⟩ := hr.glob g hg
  obtain ⟨h4, _⟩ := Array.getElem?_eq_some_iff.1 h3; exact h4
/-- a new block -/
theorem HR.new {G : Nat → List V} {r : List (Option Loc)} {h : Heap} {w w' : World} (hr : HR G r h w.heap) {c : Array Value} {e : TypeId} {fz : Nat × Nat} (hw : w'.heap = w.heap.push (.cells c e fz))
    (ho : w'.os = w.os) (ht : w'.tape = w.tape) (hou : w'.output = w.output) {b : Blk} {cap : Nat} (hb : b.st = 2) (hc : ∀ (j : Nat) v, b.cells[j]? = some v → ∃ x, c[j]? = some x ∧ R r v x) (hx : b.x = true → cap = b.cells.length)
    (h1 : cap ≤ c.size) (h2 : b.cells.length ≤ cap) (h3 : ∀ q, q < cap → ¬ (fz.1 ≤ q ∧ q < fz.2)) :
    HR G (r ++ [some ⟨w.heap.size, 0, cap⟩]) (h ++ [b]) w'.heap ∧ Keep r h w (r ++ [some ⟨w.heap.size, 0, cap⟩]) (h ++ [b]) w' := by
  have old : ∀ k, k < w.heap.size → w'.heap[k]? = w.heap[k]? := fun k hk => by
    rw [hw, Array.getElem?_push, if_neg (by omega)]
  have hr' : HR G r h w'.heap := hr.heap (fun i b L a1 a2 a3 => old _ (hr.lt a1 a2 a3)) fun g hg => old _ (hr.glt hg)
  refine ⟨hr'.add (.inr ⟨c, e, fz, by rw [hw]; simp, ?_, hx, fun _ => ⟨by simpa using h1, h2, fun q _ hq => h3 q (by simpa using hq)⟩⟩) (by omega) ?_ ?_, ?_⟩
  · intro j v hj; simpa using hc j v hj
  · intro i b' L L' hL a1 a2 a3
    obtain rfl := Option.some.inj hL
    have := hr.lt a1 a2 a3
    simp only; omega
  · intro g L hg hL
    obtain rfl := Option.some.inj hL
    have := hr.glt hg
    simp only; omega
  · refine ⟨List.prefix_append _ _, by rw [hw]; simp, ho, ht, hou, fun k hk _ => old k hk, ?_⟩
    intro i b' L a1 a2 a3 a4
    rcases getElem?_snoc a1 with a1 | ⟨rfl, rfl⟩
    · have hi := (List.getElem?_eq_some_iff.1 a1).1
      rw [List.getElem?_append_left (by rw [hr.len]; exact hi)] at a3
      exact ⟨i, b', L, a1, a2, a3, rfl⟩
    · rw [← hr.len] at a3
      simp at a3
      subst a3
      simp at a4
theorem HR.same {G : Nat → List V} {r : List (Option Loc)} {h : Heap} {w w' : World} (hr : HR G r h w.heap) (hw : w'.heap = w.heap) (ho : w'.os = w.os) (ht : w'.tape = w.tape) (hou : w'.output = w.output) : HR G r h w'.heap ∧ Keep r h w r h w' :=
  ⟨hw ▸ hr, List.prefix_refl _, by rw [hw]; exact Nat.le_refl _, ho, ht, hou, fun _ _ _ => by rw [hw], fun i b L h1 h2 h3 _ => ⟨i, b, L, h1, h2, h3, rfl⟩⟩
section small
variable (P : Program) (w : World)
theorem run_und {t : TypeId} {d : TypeDesc} (h : P.underlying t = some d) : (underlying t).run P w = .ok d w := by
  simp [underlying, h]
theorem info_of_und {t : TypeId} {d : TypeDesc} (h : P.underlying t = some d) : ∃ i, P.info? t = some i := by
  unfold Program.underlying at h
  split at h
  · rename_i h1; exact ⟨_, h1⟩
  · rename_i i h1; exact ⟨_, h1⟩
  · cases h
theorem run_sizeOf {t : TypeId} {d : TypeDesc} (h : P.underlying t = some d) : (Go.sizeOf t).run P w = .ok (P.cellsOf t) w := by
  obtain ⟨i, hi⟩ := info_of_und P h
  simp [Go.sizeOf, typeInfo, hi, Program.cellsOf]
theorem run_aggT {t : TypeId} {b : Bool} (h : aggT P t = some b) : (isAgg t).run P w = .ok b w ∧ ∃ d, P.underlying t = some d := by
  unfold aggT at h
  cases hu : P.underlying t with
  | none => rw [hu] at h; cases h
  | some d =>
    rw [hu] at h
    refine ⟨?_, d, rfl⟩
    simp only [isAgg, Sem.run_bind, run_und P w hu, Result.andThen_ok]
    cases d <;> simp at h <;> subst h <;> rfl
end small
theorem add_none (B o n : Nat) : (⟨B, o, none⟩ : Addr).add n = ⟨B, o + n, none⟩ := by
  unfold Addr.add; split
  · subst_vars; rfl
  · rfl
theorem hget_some {h : Heap} {b : Nat} {x : Blk} (e : hget h b = x) (h0 : x.st ≠ 0) : h[b]? = some x := by
  unfold hget at e
  rw [List.getD_eq_getElem?_getD] at e
  cases hb : h[b]? with
  | none => rw [hb] at e; subst e; exact absurd rfl h0
  | some y => rw [hb] at e; simp at e; rw [e]
theorem hget_live {h : Heap} {b : Nat} {x : Blk} (e : hget h b = x) (h0 : Live x) : h[b]? = some x := by
  unfold hget at e
  rw [List.getD_eq_getElem?_getD] at e
  cases hb : h[b]? with
  | none => rw [hb] at e; subst e; exact absurd h0 live_dead
  | some y => rw [hb] at e; simp at e; rw [e]
theorem byte_of {x : Int} (h : 0 ≤ x ∧ x < 256) : ((UInt8.ofNat x.toNat).toNat : Int) = x := by
  rw [UInt8.toNat_ofNat']; simp; omega
theorem ofBA_toBA {l : List Int} (h : Str l) : ofBA (toBA l) = l := by
  unfold ofBA toBA
  simp only [List.map_map]
  conv => rhs; rw [← List.map_id l]
  refine List.map_congr_left fun x hx => ?_
  exact byte_of (h.1 x hx)
theorem toBA_ofBA (s : ByteArray) : toBA (ofBA s) = s := by
  unfold ofBA toBA
  cases s with | mk d => cases d with
  | mk d =>
    simp only [List.map_map]
    congr 2
    conv => rhs; rw [← List.map_id d]
    exact List.map_congr_left fun x _ => by simp
theorem str_ofBA {s : ByteArray} (h : s.size ≤ 281474976710656) : Str (ofBA s) := by
  refine ⟨fun x hx => ?_, ?_⟩
  · unfold ofBA at hx
    obtain ⟨c, _, rfl⟩ := List.mem_map.1 hx
    have := c.toNat_lt
    omega
  · unfold ofBA; simpa using h
theorem toBA_inj {l m : List Int} (hl : Str l) (hm : Str m) (h : toBA l = toBA m) : l = m := by
  rw [← ofBA_toBA hl, ← ofBA_toBA hm, h]
theorem toBA_size (l : List Int) : (toBA l).size = l.length := by simp [toBA, ByteArray.size]
theorem toBA_append (l m : List Int) : toBA (l ++ m) = toBA l ++ toBA m := by
  apply ByteArray.ext; simp [toBA]
theorem toBA_toList (l : List Int) : (toBA l).toList = l.map fun x => UInt8.ofNat x.toNat := by
  rw [ByteArray.toList_eq]; rfl
theorem cv1_ok {r : List (Option Loc)} {v : Value} (h : okC v = true) : R r (cv1 v) v ∧ isOne (cv1 v) = true := by
  cases v with
  | bool b => exact ⟨.b b, rfl⟩
  | int k n => exact ⟨.i _ _ (by simpa [okC] using h), rfl⟩
  | string s => exact ⟨by have := R.s (r := r) (ofBA s) (str_ofBA (by simpa [okC] using h)); rwa [toBA_ofBA] at this, rfl⟩
  | _ => exact ⟨.c _, h⟩
theorem RL.map_cv1 {r : List (Option Loc)} : ∀ {l : List Value}, l.all okC = true → RL r (l.map cv1) l ∧ (l.map cv1).all isOne = true
  | [], _ => ⟨.nil, rfl⟩
  | v :: l, h => by
    simp only [List.all_cons, Bool.and_eq_true] at h
    obtain ⟨a, b⟩ := RL.map_cv1 (r := r) h.2
    obtain ⟨c, d⟩ := cv1_ok (r := r) h.1
    exact ⟨.cons c a, by simp [d]; simpa using b⟩
theorem cv_ok {r : List (Option Loc)} {v : Value} (h : okK v = true) : R r (cv v) v := by
  cases v with
  | agg cs =>
    have := R.agg (r := r) _ _ (RL.map_cv1 (r := r) (l := cs.toList) h).1
    simpa [cv] using this
  | tuple _ => exact .c _
  | bool b => exact .b b
  | int k n => exact .i _ _ (by simpa [okK, okC] using h)
  | string s => have := R.s (r := r) (ofBA s) (str_ofBA (by simpa [okK, okC] using h)); rwa [toBA_ofBA] at this
  | _ => exact .c _
theorem isOne_ok {r : List (Option Loc)} {v : V} {x : Value} (h : R r v x) (h1 : isOne v = true) : x.oneCell' = true := by
  cases h <;> first | rfl | (simp [isOne] at h1; done) | (simpa [isOne] using h1)
theorem cells_one {x : Value} (h : x.oneCell' = true) : x.cells = #[x] := by cases x <;> first | rfl | (simp [Value.oneCell'] at h)
theorem cells_ok {r : List (Option Loc)} {v : V} {x : Value} (h : R r v x) (h1 : (cellsV v).all isOne = true) : RL r (cellsV v) x.cells.toList ∧ ∀ y ∈ x.cells.toList, y.oneCell' = true := by
  have one : isOne v = true → cellsV v = [v] → RL r (cellsV v) x.cells.toList ∧ ∀ y ∈ x.cells.toList, y.oneCell' = true := fun h2 h3 => by
    have := isOne_ok h h2
    rw [h3, cells_one this]
    exact ⟨.cons h .nil, by simpa using this⟩
  have all : ∀ {l : List V} {xs : List Value}, RL r l xs → l.all isOne = true → ∀ y ∈ xs, y.oneCell' = true := by
    intro l xs hl
    induction l generalizing xs with
    | nil => cases hl; intro _ y hy; cases hy
    | cons v l ih =>
      cases hl with
      | cons hv ht =>
        intro ha y hy
        simp only [List.all_cons, Bool.and_eq_true] at ha
        rcases List.mem_cons.1 hy with rfl | hy
        · exact isOne_ok hv ha.1
        · exact ih ht ha.2 y hy
  cases h with
  | agg l xs hl => exact ⟨by simpa [cellsV, Value.cells] using hl, by simpa [Value.cells] using all hl h1⟩
  | junk => simp [cellsV, isOne] at h1
  | tup => simp [cellsV, isOne] at h1
  | _ => exact one (by simpa [cellsV] using h1) rfl
theorem cell_of {w : World} {B o : Nat} {c : Array Value} {e : TypeId} {fz : Nat × Nat} (h : w.heap[B]? = some (.cells c e fz)) : w.cell? ⟨B, o, none⟩ = c[o]? := by
  simp [World.cell?, h]
theorem run_ld {P : Program} {w : World} {r : List (Option Loc)} {B o n : Nat} {c : Array Value} {e : TypeId} {fz : Nat × Nat} (h : w.heap[B]? = some (.cells c e fz)) {l : List V} (hn : l.length = n)
    (hl : ∀ (j : Nat) v, l[j]? = some v → ∃ x, c[o + j]? = some x ∧ R r v x) : ∃ xs : List Value, (loadCells ⟨B, o, none⟩ n).run P w = .ok xs.toArray w ∧ RL r l xs := by
  refine ⟨(c.toList.drop o).take n, ?_, ?_⟩
  · have hlen : ((c.toList.drop o).take n).length = n := by
      rcases Nat.eq_zero_or_pos n with h0 | h0
      · simp [h0]
      · obtain ⟨x, hx, _⟩ := hl (n - 1) _ (List.getElem?_eq_getElem (by omega))
        obtain ⟨hx, _⟩ := Array.getElem?_eq_some_iff.1 hx
        simp; omega
    have := run_loadCells_list (P := P) (w := w) ⟨B, o, none⟩ ((c.toList.drop o).take n) (fun j v hj => by
      rw [add_none, cell_of h]
      rw [List.getElem?_take] at hj
      split at hj
      · rw [List.getElem?_drop] at hj; simpa using hj
      · cases hj)
    rw [hlen] at this
    exact this
  · refine RL.of ?_ fun j v x h1 h2 => ?_
    · rcases Nat.eq_zero_or_pos n with h0 | h0
      · subst h0; simp [hn]
      · obtain ⟨x, hx, _⟩ := hl (n - 1) _ (List.getElem?_eq_getElem (by omega))
        obtain ⟨hx, _⟩ := Array.getElem?_eq_some_iff.1 hx
        simp; omega
    · obtain ⟨y, hy, hr⟩ := hl j v h1
      rw [List.getElem?_take] at h2
      split at h2
      · rw [List.getElem?_drop] at h2
        have : c[o + j]? = some x := by simpa using h2
        rw [hy] at this; obtain rfl := Option.some.inj this; exact hr
      · cases h2
def lo (k : IntKind) : Int := if k.signed then -(2 ^ (k.bits - 1)) else 0
def hi (k : IntKind) : Int := if k.signed then 2 ^ (k.bits - 1) else 2 ^ k.bits
theorem wrap_iff (k : IntKind) (n : Int) : k.wrap n = n ↔ lo k ≤ n ∧ n < hi k := by
  cases k <;> simp [IntKind.wrap, IntKind.bits, IntKind.signed, lo, hi] <;> (try split) <;> omega
theorem wrap_wrap (k : IntKind) (n : Int) : k.wrap (k.wrap n) = k.wrap n := by
  rw [wrap_iff]
  cases k <;> simp [IntKind.wrap, IntKind.bits, IntKind.signed, lo, hi] <;> (try split) <;> omega
theorem wrap_div {k : IntKind} {n : Int} (h : k.wrap n = n) (m : Nat) : k.wrap (n / 2 ^ m) = n / 2 ^ m := by
  rw [wrap_iff] at h ⊢
  have hp : (1 : Int) ≤ 2 ^ m := by have := Nat.one_le_two_pow (n := m); exact_mod_cast this
  have h1 : 0 ≤ n → n / 2 ^ m ≤ n := fun h => Int.ediv_le_self _ h
  have h2 : 0 ≤ n → 0 ≤ n / 2 ^ m := fun h => Int.ediv_nonneg h (by omega)
  have h3 : n < 0 → n ≤ n / 2 ^ m ∧ n / 2 ^ m < 0 := fun h => by
    refine ⟨(Int.le_ediv_iff_mul_le (by omega)).2 ?_, Int.ediv_neg_of_neg_of_pos h (by omega)⟩
    have := Int.mul_le_mul_of_nonpos_left (Int.le_of_lt h) hp
    omega
  have : lo k ≤ 0 := by cases k <;> simp [lo, IntKind.signed, IntKind.bits]
  rcases Int.lt_or_le n 0 with h0 | h0
  · have := h3 h0; have : 0 < hi k := by cases k <;> simp [hi, IntKind.signed, IntKind.bits]
    omega
  · have := h1 h0; have := h2 h0; omega
theorem wrap_tmod {k : IntKind} {x y : Int} (hx : k.wrap x = x) (hy : k.wrap y = y) (h0 : y ≠ 0) : k.wrap (x.tmod y) = x.tmod y := by
  rw [wrap_iff] at hx hy ⊢
  have : lo k ≤ 0 := by cases k <;> simp [lo, IntKind.signed, IntKind.bits]
  have : 0 < hi k := by cases k <;> simp [hi, IntKind.signed, IntKind.bits]
  rcases Int.lt_or_le x 0 with h | h
  · have h1 : x.tmod y = -((-x).tmod y) := by rw [Int.neg_tmod]; omega
    have h2 : 0 ≤ (-x).tmod y := Int.tmod_nonneg _ (by omega)
    have h3 : (-x).tmod y ≤ -x := by
      have e := Int.tmod_add_mul_tdiv (-x) y
      have : 0 ≤ y * (-x).tdiv y := by
        rcases Int.lt_or_le y 0 with hn | hn
        · have : (-x).tdiv y ≤ 0 := Int.tdiv_nonpos_of_nonneg_of_nonpos (by omega) (by omega)
          exact Int.mul_nonneg_of_nonpos_of_nonpos (by omega) this
        · exact Int.mul_nonneg hn (Int.tdiv_nonneg (by omega) hn)
      omega
    omega
  · have h2 : 0 ≤ x.tmod y := Int.tmod_nonneg _ h
    have h3 : x.tmod y ≤ x := by
      have e := Int.tmod_add_mul_tdiv x y
      have : 0 ≤ y * x.tdiv y := by
        rcases Int.lt_or_le y 0 with hn | hn
        · have : x.tdiv y ≤ 0 := Int.tdiv_nonpos_of_nonneg_of_nonpos (by omega) (by omega)
          exact Int.mul_nonneg_of_nonpos_of_nonpos (by omega) this
        · exact Int.mul_nonneg hn (Int.tdiv_nonneg (by omega) hn)
      omega
    omega
theorem beq_str {a b : List Int} (ha : Str a) (hb : Str b) : ((toBA a).toList == (toBA b).toList) = (a == b) := by
  by_cases h : a = b
  · subst h; simp
  · have : ¬ (toBA a).toList = (toBA b).toList := fun e => h (by
      rw [ByteArray.toList_eq, ByteArray.toList_eq] at e
      exact toBA_inj ha hb (ByteArray.ext (Array.toList_inj.1 e)))
    rw [beq_eq_false_iff_ne.2 h, beq_eq_false_iff_ne.2 this]
theorem less_str : ∀ {a b : List Int}, (∀ x ∈ a, 0 ≤ x ∧ x < 256) → (∀ x ∈ b, 0 ≤ x ∧ x < 256) → Op.bytesLess (a.map fun x => UInt8.ofNat x.toNat) (b.map fun x => UInt8.ofNat x.toNat) = bytesLess a b
  | [], [], _, _ => rfl
  | _ :: _, [], _, _ => rfl
  | [], _ :: _, _, _ => rfl
  | x :: a, y :: b, ha, hb => by
    have hx := ha x (by simp)
    have hy := hb y (by simp)
    have ih := less_str (a := a) (b := b) (fun z hz => ha z (by simp [hz])) (fun z hz => hb z (by simp [hz]))
    simp only [List.map_cons, Op.bytesLess, bytesLess, ih]
    have e1 : (UInt8.ofNat x.toNat < UInt8.ofNat y.toNat) ↔ x < y := by
      rw [UInt8.lt_iff_toNat_lt]; have := byte_of hx; have := byte_of hy; omega
    have e2 : (UInt8.ofNat x.toNat == UInt8.ofNat y.toNat) = (x == y) := by
      by_cases h : x = y
      · subst h; simp
      · have : ¬ UInt8.ofNat x.toNat = UInt8.ofNat y.toNat := fun e => h (by rw [← byte_of hx, ← byte_of hy, e])
        rw [beq_eq_false_iff_ne.2 h, beq_eq_false_iff_ne.2 this]
    rw [e2]; congr 1; exact decide_eq_decide.2 e1
section
variable {P : Program} (w : World) {r : List (Option Loc)}
theorem strOp_ok {op : BinOp} {a b : List Int} {v : V} (ha : Str a) (hb : Str b) (h : strOp op a b = some v) : ∃ y, (Op.stringOp op (toBA a) (toBA b)).run P w = .ok y w ∧ R r v y := by
  have hl : Op.bytesLess (toBA a).toList (toBA b).toList = bytesLess a b := by rw [toBA_toList, toBA_toList]; exact less_str ha.1 hb.1
  have he := beq_str ha hb
  cases op <;> simp only [strOp] at h <;> (try cases h)
  case add =>
    split at h
    · rename_i hs
      obtain rfl := Option.some.inj h
      refine ⟨.string (toBA a ++ toBA b), run_string_add_sum w _ _ (by rw [toBA_size, toBA_size]; omega), ?_⟩
      rw [← toBA_append]
      exact .s _ ⟨fun x hx => (List.mem_append.1 hx).elim (ha.1 x) (hb.1 x), by simpa using hs⟩
    · cases h
  all_goals (simp only [Op.stringOp, Sem.run_pure, hl, he]; exact ⟨_, rfl, .b _⟩)
theorem intOp_ok {op : BinOp} {k : IntKind} {a b : Int} {v : V} (hk1 : k.wrap a = a) (hk2 : k.wrap b = b) (h : intOp op k a b = some v) (hs : op ≠ .shl ∧ op ≠ .shr) (t : TypeId) : ∃ y, (binOp op t (.int k a) (.int k b)).run P w = .ok y w ∧ R r v y := by
  cases op <;> simp only [intOp] at h <;> (try cases h)
  case quo =>
    split at h
    · cases h
    · rename_i h0; obtain rfl := Option.some.inj h
      exact ⟨_, by simp [binOp, Op.intDiv, h0], .i _ _ (wrap_wrap _ _)⟩
  case rem =>
    split at h
    · cases h
    · rename_i h0; obtain rfl := Option.some.inj h
      exact ⟨_, by simp [binOp, Op.intDiv, h0], .i _ _ (wrap_tmod hk1 hk2 h0)⟩
  case add => exact ⟨_, by simp [binOp, Op.intArith], .i _ _ (wrap_wrap _ _)⟩
  case sub => exact ⟨_, by simp [binOp, Op.intArith], .i _ _ (wrap_wrap _ _)⟩
  case mul => exact ⟨_, by simp [binOp, Op.intArith], .i _ _ (wrap_wrap _ _)⟩
  case and => exact ⟨_, by simp [binOp, intBits_and], .i _ _ (wrap_wrap _ _)⟩
  case or => exact ⟨_, by simp [binOp, intBits_or], .i _ _ (wrap_wrap _ _)⟩
  case xor => exact ⟨_, by simp [binOp, intBits_xor], .i _ _ (wrap_wrap _ _)⟩
  case andNot => exact ⟨_, by simp [binOp, intBits_andNot], .i _ _ (wrap_wrap _ _)⟩
  all_goals exact ⟨_, by simp [binOp, Op.intCmp], .b _⟩
end
theorem forall_get {r : List (Option Loc)} {l : List V} {xs : List Value} (h : RL r l xs) {i : Nat} (hi : i < l.length) : ∃ x, xs[i]? = some x ∧ R r (get l i) x := by
  obtain ⟨x, hx, hr⟩ := h.get? (List.getElem?_eq_getElem hi)
  refine ⟨x, hx, ?_⟩
  rw [get_eq, List.getD_eq_getElem?_getD, List.getElem?_eq_getElem hi]; exact hr
section
variable {P : Program} (w : World) {r : List (Option Loc)}
theorem eqK_ok {x y : V} {a : Bool} {X Y : Value} (hx : R r x X) (hy : R r y Y) {dd : TypeDesc} (h : eqK dd x y = some a) {t : TypeId} (d : Nat) (ht : P.underlying t = some dd) : (Op.equalIn (d + 1) t X Y).run P w = .ok a w := by
  unfold eqK at h
  split at h
  · cases hx; cases hy; simp at h; subst h; exact run_equalIn_bool w d t _ _ ht
  · cases hx; cases hy
    split at h
    · rename_i hk; subst hk; simp at h; subst h; exact run_equalIn_int w d t _ _ _ _ ht
    · cases h
  · cases hx with
    | s l hl => cases hy with
      | s l' hl' => simp only [Option.some.injEq] at h; subst h; rw [run_equalIn_string w d t _ _ ht, beq_str hl hl']
  · cases h
theorem eqK_junk {dd : TypeDesc} {x y : V} {a : Bool} (h : eqK dd x y = some a) : x ≠ .junk ∧ y ≠ .junk ∧ (dd = .bool ∨ (∃ k, dd = .int k) ∨ dd = .string) := by
  unfold eqK at h
  split at h
  · simp
  · simp
  · simp
  · cases h
theorem get_lt {l : List V} {i : Nat} (h : get l i ≠ .junk) : i < l.length := by
  rcases Nat.lt_or_ge i l.length with h1 | h1
  · exact h1
  · rw [get_eq, List.getD_eq_getElem?_getD, List.getElem?_eq_none h1] at h
    exact absurd rfl h
theorem run_part1 {t : TypeId} {d : TypeDesc} (hd : P.underlying t = some d) (hp : d = .bool ∨ (∃ k, d = .int k) ∨ d = .string) {xs : List Value} {o : Nat} {x : Value} (h : xs[o]? = some x) : (part t xs.toArray o).run P w = .ok x w := by
  have ha : (isAgg t).run P w = .ok false w := by
    simp only [isAgg, Sem.run_bind, run_und P w hd, Result.andThen_ok]
    rcases hp with rfl | ⟨k, rfl⟩ | rfl <;> rfl
  simp [part, ha, h]
theorem eqF_ok (d : Nat) {xs ys : List V} {Xs Ys : List Value} (hx : RL r xs Xs) (hy : RL r ys Ys) : ∀ (fs : List Field) {a : Bool}, eqF P fs xs ys = some a → (Op.eqFields (d + 1) Xs.toArray Ys.toArray fs).run P w = .ok a w
  | [], a, h => by simp [eqF] at h; subst h; simp [Op.eqFields]
  | f :: fs, a, h => by
    simp only [eqF] at h
    split at h
    · rename_i dd hu
      split at h
      · rename_i z he
        split at h
        · rename_i b hf
          split at h
          · rename_i hn
            simp only [Option.some.injEq] at h
            subst h
            obtain ⟨j1, j2, hp⟩ := eqK_junk he
            obtain ⟨x, h1, h2⟩ := forall_get hx (get_lt j1)
            obtain ⟨y, h3, h4⟩ := forall_get hy (get_lt j2)
            simp only [Op.eqFields, hn, ne_eq, not_false_eq_true, if_true, Sem.run_bind, run_part1 w hu hp h1, run_part1 w hu hp h3, Result.andThen_ok, eqK_ok w h2 h4 he d hu]
            cases z
            · simp
            · simp [eqF_ok d hx hy fs hf]
          · cases h
        · cases h
      · cases h
    · cases h
theorem guard_free {op : BinOp} {t : TypeId} (u v : Operand) {X Y : Value} (h1 : X ≠ .nilIface) (h2 : ∀ c, X ≠ .agg c) : (eqGuard op t u v X Y).run P w = .ok () w := by
  cases X <;> first | exact absurd rfl h1 | exact absurd rfl (h2 _) | (cases op <;> cases Y <;> rfl)
theorem run_eqp1 (d : Nat) {t e : TypeId} {b : Option Addr} (h : P.underlying t = some (.pointer e)) : (Op.equalIn (d + 1) t (.pointer none) (.pointer b)).run P w = .ok b.isNone w := by
  rw [Op.equalIn]; simp only [Sem.run_bind, run_und P w h, Result.andThen_ok]; rfl
theorem run_eqp2 (d : Nat) {t e : TypeId} {a : Addr} (h : P.underlying t = some (.pointer e)) : (Op.equalIn (d + 1) t (.pointer (some a)) (.pointer none)).run P w = .ok false w := by
  rw [Op.equalIn]; simp only [Sem.run_bind, run_und P w h, Result.andThen_ok]; rfl
theorem run_eqm1 (d : Nat) {t k e : TypeId} {a : Option Nat} (h : P.underlying t = some (.map k e)) : (Op.equalIn (d + 1) t (.map none) (.map a)).run P w = .ok a.isNone w := by
  rw [Op.equalIn]; simp only [Sem.run_bind, run_und P w h, Result.andThen_ok]; rfl
theorem run_eqm2 (d : Nat) {t k e : TypeId} {a : Nat} (h : P.underlying t = some (.map k e)) : (Op.equalIn (d + 1) t (.map (some a)) (.map none)).run P w = .ok false w := by
  rw [Op.equalIn]; simp only [Sem.run_bind, run_und P w h, Result.andThen_ok]; rfl
theorem eqV_ok {t : TypeId} {x y : V} {X Y : Value} {a : Bool} (hx : R r x X) (hy : R r y Y) (h : eqV P t x y = some a) : (∀ op (u v : Operand), (eqGuard op t u v X Y).run P w = .ok () w) ∧ (binOp .eql t X Y).run P w = .ok (.bool a) w ∧ (binOp .neq t X Y).run P w = .ok (.bool !a) w := by
  unfold eqV at h
  split at h
  · rename_i hu
    cases hx; cases hy; simp at h; subst h
    exact ⟨fun op u v => guard_free w u v (by simp) (by simp), run_eql_bool w t _ _ hu, run_neq_bool w t _ _ hu⟩
  · rename_i fs xs ys hu
    cases hx with
    | agg _ Xs hxs => cases hy with
      | agg _ Ys hys =>
        split at h
        · rename_i hc
          have hf : P.fieldsOf t = fs := by simp [Program.fieldsOf, hu]
          have hu' : P.underlying t = some (.struct (P.fieldsOf t)) := by rw [hf, hu]
          have := eqF_ok w 9998 hxs hys fs.toList h
          refine ⟨fun op u v => run_eqGuard_agg w op t u v _ _ hc.2, ?_, ?_⟩
          · rw [run_eql_struct, run_equalIn_struct w 9999 t _ _ hu' hc.1, hf, this]; rfl
          · rw [run_neq_struct, run_equalIn_struct w 9999 t _ _ hu' hc.1, hf, this]; rfl
        · cases h
  · rename_i hu
    cases hx; cases hy; simp at h; subst h
    refine ⟨fun op u v => guard_free w u v (by simp) (by simp), ?_, ?_⟩ <;> (simp only [binOp]; simp [Op.equal, Op.maxDepth, run_eqp2 w 9999 hu])
  · rename_i hu
    cases hx; cases hy; simp at h; subst h
    refine ⟨fun op u v => guard_free w u v (by simp) (by simp), ?_, ?_⟩ <;> (simp only [binOp]; simp [Op.equal, Op.maxDepth, run_eqp1 w 9999 hu])
  · rename_i hu
    cases hx; cases hy; simp at h; subst h
    refine ⟨fun op u v => guard_free w u v (by simp) (by simp), ?_, ?_⟩ <;> (simp only [binOp]; simp [Op.equal, Op.maxDepth, run_eqp1 w 9999 hu])
  · rename_i hu
    cases hx; cases hy; simp at h; subst h
    refine ⟨fun op u v => guard_free w u v (by simp) (by simp), ?_, ?_⟩ <;> (simp only [binOp]; simp [Op.equal, Op.maxDepth, run_eqm1 w 9999 hu])
  · rename_i hu
    cases hx; cases hy; simp at h; subst h
    refine ⟨fun op u v => guard_free w u v (by simp) (by simp), ?_, ?_⟩ <;> (simp only [binOp]; simp [Op.equal, Op.maxDepth, run_eqm2 w 9999 hu])
  · cases h
theorem binV_ok {op : BinOp} {t : TypeId} {x y v : V} {X Y : Value} (hx : R r x X) (hy : R r y Y) (h : binV P op t x y = some v) (u u' : Operand) : ∃ Z, (do eqGuard op t u u' X Y; binOp op t X Y : Sem Value).run P w = .ok Z w ∧ R r v Z := by
  have two : (∀ (q : Nat) (c : Array Value), X ≠ .nilIface ∧ X ≠ .agg c) → (∃ Z, (binOp op t X Y).run P w = .ok Z w ∧ R r v Z) → ∃ Z, (do eqGuard op t u u' X Y; binOp op t X Y : Sem Value).run P w = .ok Z w ∧ R r v Z := by
    rintro h1 ⟨Z, h2, h3⟩
    refine ⟨Z, ?_, h3⟩
    rw [Sem.run_bind, guard_free w u u' (h1 0 #[]).1 (fun c => (h1 0 c).2)]
    exact h2
  unfold binV at h
  split at h
  · cases hx with
    | i k a ha => cases hy with
      | i k' b hb =>
        split at h
        · cases h
        · rename_i hn; obtain rfl := Option.some.inj h
          exact two (by simp) ⟨_, by simp [binOp, Op.shift, hn], .i _ _ (wrap_wrap _ _)⟩
  · cases hx with
    | i k a ha => cases hy with
      | i k' b hb =>
        split at h
        · cases h
        · rename_i hn; obtain rfl := Option.some.inj h
          refine two (by simp) ⟨_, ?_, .i _ _ (wrap_div ha _)⟩
          have hp : ∀ n : Nat, (0 : Int) ≤ 2 ^ n := fun n => Int.pow_nonneg (by decide)
          simp [binOp, Op.shift, hn, Int.fdiv_eq_ediv_of_nonneg _ (hp _)]
  · rename_i k a k' b n1 n2
    cases hx with
    | i _ _ ha => cases hy with
      | i _ _ hb =>
        split at h
        · rename_i hk; subst hk
          obtain ⟨Z, h1, h2⟩ := intOp_ok (P := P) w (r := r) ha hb h ⟨fun e => by subst e; first | exact n1 | exact n1 rfl | simp_all, fun e => by subst e; first | exact n2 | simp_all⟩ t
          exact two (by simp) ⟨Z, h1, h2⟩
        · cases h
  · cases hx with
    | s a ha => cases hy with
      | s b hb =>
        obtain ⟨Z, h1, h2⟩ := strOp_ok (P := P) w (r := r) ha hb h
        refine two (by simp) ⟨Z, ?_, h2⟩
        cases op <;> simp only [binOp] <;> first | exact h1 | (simp [strOp] at h)
  · obtain ⟨a, h1, rfl⟩ := Option.map_eq_some_iff.1 h
    obtain ⟨h2, h3, h4⟩ := eqV_ok w hx hy h1
    exact ⟨_, by rw [Sem.run_bind, h2]; exact h3, .b _⟩
  · obtain ⟨a, h1, rfl⟩ := Option.map_eq_some_iff.1 h
    obtain ⟨h2, h3, h4⟩ := eqV_ok w hx hy h1
    exact ⟨_, by rw [Sem.run_bind, h2]; exact h4, .b _⟩
  · cases h
theorem unV_ok {op : UnOp} {x v : V} {X : Value} (hx : R r x X) (h : unV op x = some v) : ∃ Z, (Op.unary op X).run P w = .ok Z w ∧ R r v Z := by
  unfold unV at h
  split at h
  · cases hx; obtain rfl := Option.some.inj h; exact ⟨_, by simp [Op.unary, Op.intArith], .i _ _ (wrap_wrap _ _)⟩
  · cases hx; obtain rfl := Option.some.inj h; exact ⟨_, by simp only [Op.unary, intBits_xor, Sem.run_pure], .i _ _ (wrap_wrap _ _)⟩
  · cases hx; obtain rfl := Option.some.inj h; exact ⟨_, rfl, .b _⟩
  · cases h
end
end GoD
