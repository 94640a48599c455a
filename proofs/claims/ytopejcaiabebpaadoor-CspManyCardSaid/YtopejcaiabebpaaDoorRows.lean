/-
  NARROWER THAN 'FOR EVERY INPUT', by the rows' own cells (each row's printed sentence says how): CspParses: laid · CspFirst: laid · CspMany: laid · CspFinds: laid · CspBack: laid.
  DERIVED. THE GIVEN ROWS OF THIS SEAT. 5 by the template 'for every input the law returns true; each argument reads behind the call as it read before'; 0 by the template 'total and deterministic' (their statements: YtopejcaiabebpaaDoorTotals.lean).
  GIVEN WITH THE SEED: the statements are not yours to turn. If you find one false, say at which input.
  Laid BY PROGRAM, IN A SANDBOX (cutbox-rows.mjs): the forced cells as the released guide's own fill.sh prints them over the translation 6be51b5c660c0a28… (all of the seat's roots in one cut). By AI agents, Wed Nov 11 2026. No macro, syntax, notation, axiom, sorry.
-/
import Derived.Test.YtopejcaiabebpaaDoorChecked
import GoSem.PinnedTables
import GoSem.Claim
import GoSem.ClaimJoined
import GoSem.ClaimMapViews
import Derived.JoinedTies
import Derived.KernelRfl
namespace Go.Proofs.YtopejcaiabebpaaDoor
/- THE CELL 'sum', in the pinned program and in every row, IS THE sha256 OF THE DUMP (.gsa) THAT YtopejcaiabebpaaDoorProg.lean LOADS. Nothing in Lean hashes anything: it is a label: what it is worth is what the hold of that sum in a sandbox is worth. -/
noncomputable def Tryd.pinned : Pinned := { name := "ytopejcaiabebpaadoor", sum := "6be51b5c660c0a282cefcdcedb27dcc8108f811a786c59294d85050984835383", checked := Tryd.checked }
namespace Rows
def none {H : Type} : Left H := { results := [], args := [] }

/- WHAT THE LISTED PACKAGE-LEVEL VARIABLES READ AS WHEN THE CALL BEGINS. Each datum BY PROGRAM (the guide's laid-datum.mjs) off the statement by which the dump's own 'gosem.cut.vars' lays the variable. In a bare row this is a premise. The card (YtopejcaiabebpaaDoorCards.lean) ties it to the program's text. -/
def laid_unicode_utf8_acceptRanges {H : Type} : DataW H := .agg [.agg [.lit (.int .u8 128), .lit (.int .u8 191)], .agg [.lit (.int .u8 160), .lit (.int .u8 191)], .agg [.lit (.int .u8 128), .lit (.int .u8 159)], .agg [.lit (.int .u8 144), .lit (.int .u8 191)], .agg [.lit (.int .u8 128), .lit (.int .u8 143)], .agg [.lit (.int .u8 0), .lit (.int .u8 0)], .agg [.lit (.int .u8 0), .lit (.int .u8 0)], .agg [.lit (.int .u8 0), .lit (.int .u8 0)], .agg [.lit (.int .u8 0), .lit (.int .u8 0)], .agg [.lit (.int .u8 0), .lit (.int .u8 0)], .agg [.lit (.int .u8 0), .lit (.int .u8 0)], .agg [.lit (.int .u8 0), .lit (.int .u8 0)], .agg [.lit (.int .u8 0), .lit (.int .u8 0)], .agg [.lit (.int .u8 0), .lit (.int .u8 0)], .agg [.lit (.int .u8 0), .lit (.int .u8 0)], .agg [.lit (.int .u8 0), .lit (.int .u8 0)]]
/-- One of Go's own tables, pinned by name: the form's constant. -/
def laid_unicode_utf8_first : DataW Unit := Go.Pinned.utf8First

/-- 'parapetlaw14.CspParses': WHATEVER THE INPUT: true; the input reads as it did. -/
def cspParsesSpec : ChangeSpec := { name := "cspParses", fn := fun _ => fun
  | [d] => { results := [.lit (.bool true)], args := [d] }
  | _ => none }
def cspParsesRow : OpenClaim := { program := "ytopejcaiabebpaadoor", sum := "6be51b5c660c0a282cefcdcedb27dcc8108f811a786c59294d85050984835383", func := "parapet/parapetlaw14.CspParses", spec := "cspParses", inPlace := ["internal/bytealg.CountString", "internal/bytealg.IndexByteString", "internal/bytealg.IndexString"], unfollowed := true, recurses := true, named := ["unicode/utf8.first", "unicode/utf8.acceptRanges", "internal/bytealg.MaxLen"], apart := false, laid := [("unicode/utf8.acceptRanges", laid_unicode_utf8_acceptRanges), ("unicode/utf8.first", laid_unicode_utf8_first)] }
def CspParsesSaid : Prop := cspParsesRow.holds Tryd.pinned (OpenSpec.ofChange cspParsesSpec)

/-- ITS FALSE NEIGHBOUR: 'it returns false'. Refute it at one input. -/
def cspParsesWrong : ChangeSpec := { name := "cspParses", fn := fun _ => fun
  | [d] => { results := [.lit (.bool false)], args := [d] }
  | _ => none }
def CspParsesWrongFalsely : Prop := cspParsesRow.holds Tryd.pinned (OpenSpec.ofChange cspParsesWrong)

/-- 'parapetlaw14.CspFirst': WHATEVER THE INPUT: true; the input reads as it did. -/
def cspFirstSpec : ChangeSpec := { name := "cspFirst", fn := fun _ => fun
  | [d1, d2] => { results := [.lit (.bool true)], args := [d1, d2] }
  | _ => none }
def cspFirstRow : OpenClaim := { program := "ytopejcaiabebpaadoor", sum := "6be51b5c660c0a282cefcdcedb27dcc8108f811a786c59294d85050984835383", func := "parapet/parapetlaw14.CspFirst", spec := "cspFirst", inPlace := ["internal/bytealg.CountString", "internal/bytealg.IndexByteString", "internal/bytealg.IndexString"], unfollowed := true, recurses := true, named := ["unicode/utf8.first", "unicode/utf8.acceptRanges", "internal/bytealg.MaxLen"], apart := false, laid := [("unicode/utf8.acceptRanges", laid_unicode_utf8_acceptRanges), ("unicode/utf8.first", laid_unicode_utf8_first)] }
def CspFirstSaid : Prop := cspFirstRow.holds Tryd.pinned (OpenSpec.ofChange cspFirstSpec)

/-- ITS FALSE NEIGHBOUR: 'it returns false'. Refute it at one input. -/
def cspFirstWrong : ChangeSpec := { name := "cspFirst", fn := fun _ => fun
  | [d1, d2] => { results := [.lit (.bool false)], args := [d1, d2] }
  | _ => none }
def CspFirstWrongFalsely : Prop := cspFirstRow.holds Tryd.pinned (OpenSpec.ofChange cspFirstWrong)

/-- 'parapetlaw14.CspMany': WHATEVER THE INPUT: true; the input reads as it did. -/
def cspManySpec : ChangeSpec := { name := "cspMany", fn := fun _ => fun
  | [d] => { results := [.lit (.bool true)], args := [d] }
  | _ => none }
def cspManyRow : OpenClaim := { program := "ytopejcaiabebpaadoor", sum := "6be51b5c660c0a282cefcdcedb27dcc8108f811a786c59294d85050984835383", func := "parapet/parapetlaw14.CspMany", spec := "cspMany", inPlace := ["internal/bytealg.CountString", "internal/bytealg.IndexByteString", "internal/bytealg.IndexString"], unfollowed := true, recurses := true, named := ["unicode/utf8.first", "unicode/utf8.acceptRanges", "internal/bytealg.MaxLen"], apart := false, laid := [("unicode/utf8.acceptRanges", laid_unicode_utf8_acceptRanges), ("unicode/utf8.first", laid_unicode_utf8_first)] }
def CspManySaid : Prop := cspManyRow.holds Tryd.pinned (OpenSpec.ofChange cspManySpec)

/-- ITS FALSE NEIGHBOUR: 'it returns false'. Refute it at one input. -/
def cspManyWrong : ChangeSpec := { name := "cspMany", fn := fun _ => fun
  | [d] => { results := [.lit (.bool false)], args := [d] }
  | _ => none }
def CspManyWrongFalsely : Prop := cspManyRow.holds Tryd.pinned (OpenSpec.ofChange cspManyWrong)

/-- 'parapetlaw14.CspFinds': WHATEVER THE INPUT: true; the input reads as it did. -/
def cspFindsSpec : ChangeSpec := { name := "cspFinds", fn := fun _ => fun
  | [d1, d2] => { results := [.lit (.bool true)], args := [d1, d2] }
  | _ => none }
def cspFindsRow : OpenClaim := { program := "ytopejcaiabebpaadoor", sum := "6be51b5c660c0a282cefcdcedb27dcc8108f811a786c59294d85050984835383", func := "parapet/parapetlaw14.CspFinds", spec := "cspFinds", inPlace := ["internal/bytealg.CountString", "internal/bytealg.IndexByteString", "internal/bytealg.IndexString", "internal/abi.NoEscape", "internal/bytealg.MakeNoZero"], unfollowed := true, recurses := true, named := ["unicode/utf8.first", "unicode/utf8.acceptRanges", "internal/bytealg.MaxLen"], apart := false, laid := [("unicode/utf8.acceptRanges", laid_unicode_utf8_acceptRanges), ("unicode/utf8.first", laid_unicode_utf8_first)] }
def CspFindsSaid : Prop := cspFindsRow.holds Tryd.pinned (OpenSpec.ofChange cspFindsSpec)

/-- ITS FALSE NEIGHBOUR: 'it returns false'. Refute it at one input. -/
def cspFindsWrong : ChangeSpec := { name := "cspFinds", fn := fun _ => fun
  | [d1, d2] => { results := [.lit (.bool false)], args := [d1, d2] }
  | _ => none }
def CspFindsWrongFalsely : Prop := cspFindsRow.holds Tryd.pinned (OpenSpec.ofChange cspFindsWrong)

/-- 'parapetlaw14.CspBack': WHATEVER THE INPUT: true; the input reads as it did. -/
def cspBackSpec : ChangeSpec := { name := "cspBack", fn := fun _ => fun
  | [d] => { results := [.lit (.bool true)], args := [d] }
  | _ => none }
def cspBackRow : OpenClaim := { program := "ytopejcaiabebpaadoor", sum := "6be51b5c660c0a282cefcdcedb27dcc8108f811a786c59294d85050984835383", func := "parapet/parapetlaw14.CspBack", spec := "cspBack", inPlace := ["internal/bytealg.CountString", "internal/bytealg.IndexByteString", "internal/bytealg.IndexString", "internal/abi.NoEscape", "internal/bytealg.MakeNoZero"], unfollowed := true, recurses := true, named := ["unicode/utf8.first", "unicode/utf8.acceptRanges", "internal/bytealg.MaxLen"], apart := false, laid := [("unicode/utf8.acceptRanges", laid_unicode_utf8_acceptRanges), ("unicode/utf8.first", laid_unicode_utf8_first)] }
def CspBackSaid : Prop := cspBackRow.holds Tryd.pinned (OpenSpec.ofChange cspBackSpec)

/-- ITS FALSE NEIGHBOUR: 'it returns false'. Refute it at one input. -/
def cspBackWrong : ChangeSpec := { name := "cspBack", fn := fun _ => fun
  | [d] => { results := [.lit (.bool false)], args := [d] }
  | _ => none }
def CspBackWrongFalsely : Prop := cspBackRow.holds Tryd.pinned (OpenSpec.ofChange cspBackWrong)

/- THE SECOND FORM. 'bulk': how many values and letters a reading holds, each counted each time it is reached (what is shared counts as often as it is met; a slice's spare places count too). A statement '..UptoSaid' is the law's where the arguments, and the package variables that the reading takes, are together of bulk at most 1048576: NARROWER than '..Said'. Prove '..Said' where nothing that the law and all that it calls make is longer than what came in: it says more and counts as full. Else prove '..UptoSaid'. A law counts once. -/
mutual
def uptoBulk {H : Type} : DataW H → Nat
  | .lit (.string bytes) => bytes.length + 1
  | .lit _ => 1
  | .nil => 1
  | .ptr d => uptoBulk d + 1
  | .slice elems spare => uptoBulkAll elems + uptoBulkAll spare + 1
  | .agg parts => uptoBulkAll parts + 1
  | .iface _ d => uptoBulk d + 1
  | .map entries => uptoBulkEntries entries + 1
  | .held _ => 1
def uptoBulkAll {H : Type} : List (DataW H) → Nat
  | [] => 0
  | d :: r => uptoBulk d + uptoBulkAll r
def uptoBulkEntries {H : Type} : List (Lit × DataW H) → Nat
  | [] => 0
  | x :: r => uptoBulkEntry x + uptoBulkEntries r
def uptoBulkEntry {H : Type} : Lit × DataW H → Nat
  | (.string bytes, d) => bytes.length + uptoBulk d + 1
  | (_, d) => uptoBulk d + 1
 end
def uptoSmall : (H : Type) → List (DataW H) → Bool := fun _ ds => decide (uptoBulkAll ds ≤ 1048576)
def OpenSpec.upto (s : _root_.Go.ChangeSpec) : _root_.Go.OpenSpec := { _root_.Go.OpenSpec.ofChange s with cond := some uptoSmall }

/-- 'parapetlaw14.CspParses', WHERE WHAT IT READS IS OF BULK AT MOST 1048576: true; the input reads as it did. -/
def cspParsesUptoRow : OpenClaim := { program := "ytopejcaiabebpaadoor", sum := "6be51b5c660c0a282cefcdcedb27dcc8108f811a786c59294d85050984835383", func := "parapet/parapetlaw14.CspParses", spec := "cspParses", inPlace := ["internal/bytealg.CountString", "internal/bytealg.IndexByteString", "internal/bytealg.IndexString"], unfollowed := true, recurses := true, named := ["unicode/utf8.first", "unicode/utf8.acceptRanges", "internal/bytealg.MaxLen"], apart := false, laid := [("unicode/utf8.acceptRanges", laid_unicode_utf8_acceptRanges), ("unicode/utf8.first", laid_unicode_utf8_first)], narrowed := true }
def CspParsesUptoSaid : Prop := cspParsesUptoRow.holds Tryd.pinned (OpenSpec.upto cspParsesSpec)

/-- 'parapetlaw14.CspFirst', WHERE WHAT IT READS IS OF BULK AT MOST 1048576: true; the input reads as it did. -/
def cspFirstUptoRow : OpenClaim := { program := "ytopejcaiabebpaadoor", sum := "6be51b5c660c0a282cefcdcedb27dcc8108f811a786c59294d85050984835383", func := "parapet/parapetlaw14.CspFirst", spec := "cspFirst", inPlace := ["internal/bytealg.CountString", "internal/bytealg.IndexByteString", "internal/bytealg.IndexString"], unfollowed := true, recurses := true, named := ["unicode/utf8.first", "unicode/utf8.acceptRanges", "internal/bytealg.MaxLen"], apart := false, laid := [("unicode/utf8.acceptRanges", laid_unicode_utf8_acceptRanges), ("unicode/utf8.first", laid_unicode_utf8_first)], narrowed := true }
def CspFirstUptoSaid : Prop := cspFirstUptoRow.holds Tryd.pinned (OpenSpec.upto cspFirstSpec)

/-- 'parapetlaw14.CspMany', WHERE WHAT IT READS IS OF BULK AT MOST 1048576: true; the input reads as it did. -/
def cspManyUptoRow : OpenClaim := { program := "ytopejcaiabebpaadoor", sum := "6be51b5c660c0a282cefcdcedb27dcc8108f811a786c59294d85050984835383", func := "parapet/parapetlaw14.CspMany", spec := "cspMany", inPlace := ["internal/bytealg.CountString", "internal/bytealg.IndexByteString", "internal/bytealg.IndexString"], unfollowed := true, recurses := true, named := ["unicode/utf8.first", "unicode/utf8.acceptRanges", "internal/bytealg.MaxLen"], apart := false, laid := [("unicode/utf8.acceptRanges", laid_unicode_utf8_acceptRanges), ("unicode/utf8.first", laid_unicode_utf8_first)], narrowed := true }
def CspManyUptoSaid : Prop := cspManyUptoRow.holds Tryd.pinned (OpenSpec.upto cspManySpec)

/-- 'parapetlaw14.CspFinds', WHERE WHAT IT READS IS OF BULK AT MOST 1048576: true; the input reads as it did. -/
def cspFindsUptoRow : OpenClaim := { program := "ytopejcaiabebpaadoor", sum := "6be51b5c660c0a282cefcdcedb27dcc8108f811a786c59294d85050984835383", func := "parapet/parapetlaw14.CspFinds", spec := "cspFinds", inPlace := ["internal/bytealg.CountString", "internal/bytealg.IndexByteString", "internal/bytealg.IndexString", "internal/abi.NoEscape", "internal/bytealg.MakeNoZero"], unfollowed := true, recurses := true, named := ["unicode/utf8.first", "unicode/utf8.acceptRanges", "internal/bytealg.MaxLen"], apart := false, laid := [("unicode/utf8.acceptRanges", laid_unicode_utf8_acceptRanges), ("unicode/utf8.first", laid_unicode_utf8_first)], narrowed := true }
def CspFindsUptoSaid : Prop := cspFindsUptoRow.holds Tryd.pinned (OpenSpec.upto cspFindsSpec)

/-- 'parapetlaw14.CspBack', WHERE WHAT IT READS IS OF BULK AT MOST 1048576: true; the input reads as it did. -/
def cspBackUptoRow : OpenClaim := { program := "ytopejcaiabebpaadoor", sum := "6be51b5c660c0a282cefcdcedb27dcc8108f811a786c59294d85050984835383", func := "parapet/parapetlaw14.CspBack", spec := "cspBack", inPlace := ["internal/bytealg.CountString", "internal/bytealg.IndexByteString", "internal/bytealg.IndexString", "internal/abi.NoEscape", "internal/bytealg.MakeNoZero"], unfollowed := true, recurses := true, named := ["unicode/utf8.first", "unicode/utf8.acceptRanges", "internal/bytealg.MaxLen"], apart := false, laid := [("unicode/utf8.acceptRanges", laid_unicode_utf8_acceptRanges), ("unicode/utf8.first", laid_unicode_utf8_first)], narrowed := true }
def CspBackUptoSaid : Prop := cspBackUptoRow.holds Tryd.pinned (OpenSpec.upto cspBackSpec)

end Rows
end Go.Proofs.YtopejcaiabebpaaDoor
