/-
  NARROWER THAN 'FOR EVERY INPUT', by the rows' own cells (each row's printed sentence says how): HostBases: laid · HostCases: laid · HostParts: laid · HostNumbers: laid · HostParses: laid · HostBack: laid.
  DERIVED. THE GIVEN ROWS OF THIS SEAT. 6 by the template 'for every input the law returns true; each argument reads behind the call as it read before'; 0 by the template 'total and deterministic' (their statements: YtgldmliemeadpaaDoorTotals.lean).
  GIVEN WITH THE SEED: the statements are not yours to turn. If you find one false, say at which input.
  Laid BY PROGRAM, IN A SANDBOX (cutbox-rows.mjs): the forced cells as the released guide's own fill.sh prints them over the translation 947d98b484f1f8c3… (all of the seat's roots in one cut). By AI agents, Wed Nov 11 2026. No macro, syntax, notation, axiom, sorry.
-/
import Derived.Test.YtgldmliemeadpaaDoorChecked
import GoSem.PinnedTables
import GoSem.Claim
import GoSem.ClaimJoined
import GoSem.ClaimMapViews
import Derived.JoinedTies
import Derived.KernelRfl
namespace Go.Proofs.YtgldmliemeadpaaDoor
/- THE CELL 'sum', in the pinned program and in every row, IS THE sha256 OF THE DUMP (.gsa) THAT YtgldmliemeadpaaDoorProg.lean LOADS. Nothing in Lean hashes anything: it is a label: what it is worth is what the hold of that sum in a sandbox is worth. -/
noncomputable def Tryd.pinned : Pinned := { name := "ytgldmliemeadpaadoor", sum := "947d98b484f1f8c36e2e7d17b3ea9405a3621e46ba485a745fcd3ee688bc43c6", checked := Tryd.checked }
namespace Rows
def none {H : Type} : Left H := { results := [], args := [] }

/- WHAT THE LISTED PACKAGE-LEVEL VARIABLES READ AS WHEN THE CALL BEGINS. Each datum BY PROGRAM (the guide's laid-datum.mjs) off the statement by which the dump's own 'gosem.cut.vars' lays the variable. In a bare row this is a premise. The card (YtgldmliemeadpaaDoorCards.lean) ties it to the program's text. -/
def laid_unicode_utf8_acceptRanges {H : Type} : DataW H := .agg [.agg [.lit (.int .u8 128), .lit (.int .u8 191)], .agg [.lit (.int .u8 160), .lit (.int .u8 191)], .agg [.lit (.int .u8 128), .lit (.int .u8 159)], .agg [.lit (.int .u8 144), .lit (.int .u8 191)], .agg [.lit (.int .u8 128), .lit (.int .u8 143)], .agg [.lit (.int .u8 0), .lit (.int .u8 0)], .agg [.lit (.int .u8 0), .lit (.int .u8 0)], .agg [.lit (.int .u8 0), .lit (.int .u8 0)], .agg [.lit (.int .u8 0), .lit (.int .u8 0)], .agg [.lit (.int .u8 0), .lit (.int .u8 0)], .agg [.lit (.int .u8 0), .lit (.int .u8 0)], .agg [.lit (.int .u8 0), .lit (.int .u8 0)], .agg [.lit (.int .u8 0), .lit (.int .u8 0)], .agg [.lit (.int .u8 0), .lit (.int .u8 0)], .agg [.lit (.int .u8 0), .lit (.int .u8 0)], .agg [.lit (.int .u8 0), .lit (.int .u8 0)]]
/-- One of Go's own tables, pinned by name: the form's constant. -/
def laid_unicode_utf8_first : DataW Unit := Go.Pinned.utf8First

/-- 'parapetlaw10.HostBases': WHATEVER THE INPUT: true; the input reads as it did. -/
def hostBasesSpec : ChangeSpec := { name := "hostBases", fn := fun _ => fun
  | [d1, d2] => { results := [.lit (.bool true)], args := [d1, d2] }
  | _ => none }
def hostBasesRow : OpenClaim := { program := "ytgldmliemeadpaadoor", sum := "947d98b484f1f8c36e2e7d17b3ea9405a3621e46ba485a745fcd3ee688bc43c6", func := "parapet/parapetlaw10.HostBases", spec := "hostBases", inPlace := ["internal/bytealg.CountString", "internal/bytealg.IndexByteString", "internal/bytealg.IndexString"], unfollowed := true, recurses := true, named := ["unicode/utf8.first", "unicode/utf8.acceptRanges", "internal/bytealg.MaxLen"], apart := false, laid := [("unicode/utf8.acceptRanges", laid_unicode_utf8_acceptRanges), ("unicode/utf8.first", laid_unicode_utf8_first)] }
def HostBasesSaid : Prop := hostBasesRow.holds Tryd.pinned (OpenSpec.ofChange hostBasesSpec)

/-- ITS FALSE NEIGHBOUR: 'it returns false'. Refute it at one input. -/
def hostBasesWrong : ChangeSpec := { name := "hostBases", fn := fun _ => fun
  | [d1, d2] => { results := [.lit (.bool false)], args := [d1, d2] }
  | _ => none }
def HostBasesWrongFalsely : Prop := hostBasesRow.holds Tryd.pinned (OpenSpec.ofChange hostBasesWrong)

/-- 'parapetlaw10.HostCases': WHATEVER THE INPUT: true; the input reads as it did. -/
def hostCasesSpec : ChangeSpec := { name := "hostCases", fn := fun _ => fun
  | [d1, d2] => { results := [.lit (.bool true)], args := [d1, d2] }
  | _ => none }
def hostCasesRow : OpenClaim := { program := "ytgldmliemeadpaadoor", sum := "947d98b484f1f8c36e2e7d17b3ea9405a3621e46ba485a745fcd3ee688bc43c6", func := "parapet/parapetlaw10.HostCases", spec := "hostCases", inPlace := ["internal/bytealg.IndexByteString", "internal/bytealg.CountString", "internal/bytealg.IndexString"], recurses := true, named := ["unicode/utf8.first", "unicode/utf8.acceptRanges", "internal/bytealg.MaxLen"], apart := false, laid := [("unicode/utf8.acceptRanges", laid_unicode_utf8_acceptRanges), ("unicode/utf8.first", laid_unicode_utf8_first)] }
def HostCasesSaid : Prop := hostCasesRow.holds Tryd.pinned (OpenSpec.ofChange hostCasesSpec)

/-- ITS FALSE NEIGHBOUR: 'it returns false'. Refute it at one input. -/
def hostCasesWrong : ChangeSpec := { name := "hostCases", fn := fun _ => fun
  | [d1, d2] => { results := [.lit (.bool false)], args := [d1, d2] }
  | _ => none }
def HostCasesWrongFalsely : Prop := hostCasesRow.holds Tryd.pinned (OpenSpec.ofChange hostCasesWrong)

/-- 'parapetlaw10.HostParts': WHATEVER THE INPUT: true; the input reads as it did. -/
def hostPartsSpec : ChangeSpec := { name := "hostParts", fn := fun _ => fun
  | [d1, d2] => { results := [.lit (.bool true)], args := [d1, d2] }
  | _ => none }
def hostPartsRow : OpenClaim := { program := "ytgldmliemeadpaadoor", sum := "947d98b484f1f8c36e2e7d17b3ea9405a3621e46ba485a745fcd3ee688bc43c6", func := "parapet/parapetlaw10.HostParts", spec := "hostParts", inPlace := ["internal/bytealg.IndexByteString", "internal/bytealg.CountString", "internal/bytealg.IndexString"], recurses := true, named := ["unicode/utf8.first", "unicode/utf8.acceptRanges", "internal/bytealg.MaxLen"], apart := false, laid := [("unicode/utf8.acceptRanges", laid_unicode_utf8_acceptRanges), ("unicode/utf8.first", laid_unicode_utf8_first)] }
def HostPartsSaid : Prop := hostPartsRow.holds Tryd.pinned (OpenSpec.ofChange hostPartsSpec)

/-- ITS FALSE NEIGHBOUR: 'it returns false'. Refute it at one input. -/
def hostPartsWrong : ChangeSpec := { name := "hostParts", fn := fun _ => fun
  | [d1, d2] => { results := [.lit (.bool false)], args := [d1, d2] }
  | _ => none }
def HostPartsWrongFalsely : Prop := hostPartsRow.holds Tryd.pinned (OpenSpec.ofChange hostPartsWrong)

/-- 'parapetlaw10.HostNumbers': WHATEVER THE INPUT: true; the input reads as it did. -/
def hostNumbersSpec : ChangeSpec := { name := "hostNumbers", fn := fun _ => fun
  | [d1, d2] => { results := [.lit (.bool true)], args := [d1, d2] }
  | _ => none }
def hostNumbersRow : OpenClaim := { program := "ytgldmliemeadpaadoor", sum := "947d98b484f1f8c36e2e7d17b3ea9405a3621e46ba485a745fcd3ee688bc43c6", func := "parapet/parapetlaw10.HostNumbers", spec := "hostNumbers", inPlace := ["internal/bytealg.IndexByteString", "internal/bytealg.CountString", "internal/bytealg.IndexString"], recurses := true, named := ["unicode/utf8.first", "unicode/utf8.acceptRanges", "internal/bytealg.MaxLen"], apart := false, laid := [("unicode/utf8.acceptRanges", laid_unicode_utf8_acceptRanges), ("unicode/utf8.first", laid_unicode_utf8_first)] }
def HostNumbersSaid : Prop := hostNumbersRow.holds Tryd.pinned (OpenSpec.ofChange hostNumbersSpec)

/-- ITS FALSE NEIGHBOUR: 'it returns false'. Refute it at one input. -/
def hostNumbersWrong : ChangeSpec := { name := "hostNumbers", fn := fun _ => fun
  | [d1, d2] => { results := [.lit (.bool false)], args := [d1, d2] }
  | _ => none }
def HostNumbersWrongFalsely : Prop := hostNumbersRow.holds Tryd.pinned (OpenSpec.ofChange hostNumbersWrong)

/-- 'parapetlaw10.HostParses': WHATEVER THE INPUT: true; the input reads as it did. -/
def hostParsesSpec : ChangeSpec := { name := "hostParses", fn := fun _ => fun
  | [d] => { results := [.lit (.bool true)], args := [d] }
  | _ => none }
def hostParsesRow : OpenClaim := { program := "ytgldmliemeadpaadoor", sum := "947d98b484f1f8c36e2e7d17b3ea9405a3621e46ba485a745fcd3ee688bc43c6", func := "parapet/parapetlaw10.HostParses", spec := "hostParses", inPlace := ["internal/bytealg.IndexByteString", "internal/bytealg.CountString", "internal/bytealg.IndexString"], recurses := true, named := ["unicode/utf8.first", "unicode/utf8.acceptRanges", "internal/bytealg.MaxLen"], apart := false, laid := [("unicode/utf8.acceptRanges", laid_unicode_utf8_acceptRanges), ("unicode/utf8.first", laid_unicode_utf8_first)] }
def HostParsesSaid : Prop := hostParsesRow.holds Tryd.pinned (OpenSpec.ofChange hostParsesSpec)

/-- ITS FALSE NEIGHBOUR: 'it returns false'. Refute it at one input. -/
def hostParsesWrong : ChangeSpec := { name := "hostParses", fn := fun _ => fun
  | [d] => { results := [.lit (.bool false)], args := [d] }
  | _ => none }
def HostParsesWrongFalsely : Prop := hostParsesRow.holds Tryd.pinned (OpenSpec.ofChange hostParsesWrong)

/-- 'parapetlaw10.HostBack': WHATEVER THE INPUT: true; the input reads as it did. -/
def hostBackSpec : ChangeSpec := { name := "hostBack", fn := fun _ => fun
  | [d1, d2] => { results := [.lit (.bool true)], args := [d1, d2] }
  | _ => none }
def hostBackRow : OpenClaim := { program := "ytgldmliemeadpaadoor", sum := "947d98b484f1f8c36e2e7d17b3ea9405a3621e46ba485a745fcd3ee688bc43c6", func := "parapet/parapetlaw10.HostBack", spec := "hostBack", inPlace := ["internal/bytealg.IndexByteString", "internal/bytealg.CountString", "internal/bytealg.IndexString"], recurses := true, named := ["unicode/utf8.first", "unicode/utf8.acceptRanges", "internal/bytealg.MaxLen"], apart := false, laid := [("unicode/utf8.acceptRanges", laid_unicode_utf8_acceptRanges), ("unicode/utf8.first", laid_unicode_utf8_first)] }
def HostBackSaid : Prop := hostBackRow.holds Tryd.pinned (OpenSpec.ofChange hostBackSpec)

/-- ITS FALSE NEIGHBOUR: 'it returns false'. Refute it at one input. -/
def hostBackWrong : ChangeSpec := { name := "hostBack", fn := fun _ => fun
  | [d1, d2] => { results := [.lit (.bool false)], args := [d1, d2] }
  | _ => none }
def HostBackWrongFalsely : Prop := hostBackRow.holds Tryd.pinned (OpenSpec.ofChange hostBackWrong)

/- THE SECOND FORM. 'bulk': how many values and letters a reading holds, each counted each time it is reached (what is shared counts as often as it is met; a slice's spare places count too). A statement '..UptoSaid' is the law's where the arguments, and the package variables that the reading takes, are together of bulk at most 1048576: NARROWER than '..Said'. Prove '..Said' where nothing that the law and all that it calls make is longer than what came in: it says more and counts as full. Else prove '..UptoSaid'. A law counts once. -/
mutual
def uptoBulk {H : Type} : DataW H → Nat
  | .lit (.string bytes) => bytes.length + 1
  | .lit _ => 1
  | .nil => 1
  | .ptr d => uptoBulk d + 1
  | .slice elems spare => uptoBulkAll elems + uptoBulkAll spare + 1
  | .agg parts => uptoBulkAll parts + 1
  | .iface _ d => uptoBulk d + 1
  | .map entries => uptoBulkEntries entries + 1
  | .held _ => 1
def uptoBulkAll {H : Type} : List (DataW H) → Nat
  | [] => 0
  | d :: r => uptoBulk d + uptoBulkAll r
def uptoBulkEntries {H : Type} : List (Lit × DataW H) → Nat
  | [] => 0
  | x :: r => uptoBulkEntry x + uptoBulkEntries r
def uptoBulkEntry {H : Type} : Lit × DataW H → Nat
  | (.string bytes, d) => bytes.length + uptoBulk d + 1
  | (_, d) => uptoBulk d + 1
 end
def uptoSmall : (H : Type) → List (DataW H) → Bool := fun _ ds => decide (uptoBulkAll ds ≤ 1048576)
def OpenSpec.upto (s : _root_.Go.ChangeSpec) : _root_.Go.OpenSpec := { _root_.Go.OpenSpec.ofChange s with cond := some uptoSmall }

/-- 'parapetlaw10.HostBases', WHERE WHAT IT READS IS OF BULK AT MOST 1048576: true; the input reads as it did. -/
def hostBasesUptoRow : OpenClaim := { program := "ytgldmliemeadpaadoor", sum := "947d98b484f1f8c36e2e7d17b3ea9405a3621e46ba485a745fcd3ee688bc43c6", func := "parapet/parapetlaw10.HostBases", spec := "hostBases", inPlace := ["internal/bytealg.CountString", "internal/bytealg.IndexByteString", "internal/bytealg.IndexString"], unfollowed := true, recurses := true, named := ["unicode/utf8.first", "unicode/utf8.acceptRanges", "internal/bytealg.MaxLen"], apart := false, laid := [("unicode/utf8.acceptRanges", laid_unicode_utf8_acceptRanges), ("unicode/utf8.first", laid_unicode_utf8_first)], narrowed := true }
def HostBasesUptoSaid : Prop := hostBasesUptoRow.holds Tryd.pinned (OpenSpec.upto hostBasesSpec)

/-- 'parapetlaw10.HostCases', WHERE WHAT IT READS IS OF BULK AT MOST 1048576: true; the input reads as it did. -/
def hostCasesUptoRow : OpenClaim := { program := "ytgldmliemeadpaadoor", sum := "947d98b484f1f8c36e2e7d17b3ea9405a3621e46ba485a745fcd3ee688bc43c6", func := "parapet/parapetlaw10.HostCases", spec := "hostCases", inPlace := ["internal/bytealg.IndexByteString", "internal/bytealg.CountString", "internal/bytealg.IndexString"], recurses := true, named := ["unicode/utf8.first", "unicode/utf8.acceptRanges", "internal/bytealg.MaxLen"], apart := false, laid := [("unicode/utf8.acceptRanges", laid_unicode_utf8_acceptRanges), ("unicode/utf8.first", laid_unicode_utf8_first)], narrowed := true }
def HostCasesUptoSaid : Prop := hostCasesUptoRow.holds Tryd.pinned (OpenSpec.upto hostCasesSpec)

/-- 'parapetlaw10.HostParts', WHERE WHAT IT READS IS OF BULK AT MOST 1048576: true; the input reads as it did. -/
def hostPartsUptoRow : OpenClaim := { program := "ytgldmliemeadpaadoor", sum := "947d98b484f1f8c36e2e7d17b3ea9405a3621e46ba485a745fcd3ee688bc43c6", func := "parapet/parapetlaw10.HostParts", spec := "hostParts", inPlace := ["internal/bytealg.IndexByteString", "internal/bytealg.CountString", "internal/bytealg.IndexString"], recurses := true, named := ["unicode/utf8.first", "unicode/utf8.acceptRanges", "internal/bytealg.MaxLen"], apart := false, laid := [("unicode/utf8.acceptRanges", laid_unicode_utf8_acceptRanges), ("unicode/utf8.first", laid_unicode_utf8_first)], narrowed := true }
def HostPartsUptoSaid : Prop := hostPartsUptoRow.holds Tryd.pinned (OpenSpec.upto hostPartsSpec)

/-- 'parapetlaw10.HostNumbers', WHERE WHAT IT READS IS OF BULK AT MOST 1048576: true; the input reads as it did. -/
def hostNumbersUptoRow : OpenClaim := { program := "ytgldmliemeadpaadoor", sum := "947d98b484f1f8c36e2e7d17b3ea9405a3621e46ba485a745fcd3ee688bc43c6", func := "parapet/parapetlaw10.HostNumbers", spec := "hostNumbers", inPlace := ["internal/bytealg.IndexByteString", "internal/bytealg.CountString", "internal/bytealg.IndexString"], recurses := true, named := ["unicode/utf8.first", "unicode/utf8.acceptRanges", "internal/bytealg.MaxLen"], apart := false, laid := [("unicode/utf8.acceptRanges", laid_unicode_utf8_acceptRanges), ("unicode/utf8.first", laid_unicode_utf8_first)], narrowed := true }
def HostNumbersUptoSaid : Prop := hostNumbersUptoRow.holds Tryd.pinned (OpenSpec.upto hostNumbersSpec)

/-- 'parapetlaw10.HostParses', WHERE WHAT IT READS IS OF BULK AT MOST 1048576: true; the input reads as it did. -/
def hostParsesUptoRow : OpenClaim := { program := "ytgldmliemeadpaadoor", sum := "947d98b484f1f8c36e2e7d17b3ea9405a3621e46ba485a745fcd3ee688bc43c6", func := "parapet/parapetlaw10.HostParses", spec := "hostParses", inPlace := ["internal/bytealg.IndexByteString", "internal/bytealg.CountString", "internal/bytealg.IndexString"], recurses := true, named := ["unicode/utf8.first", "unicode/utf8.acceptRanges", "internal/bytealg.MaxLen"], apart := false, laid := [("unicode/utf8.acceptRanges", laid_unicode_utf8_acceptRanges), ("unicode/utf8.first", laid_unicode_utf8_first)], narrowed := true }
def HostParsesUptoSaid : Prop := hostParsesUptoRow.holds Tryd.pinned (OpenSpec.upto hostParsesSpec)

/-- 'parapetlaw10.HostBack', WHERE WHAT IT READS IS OF BULK AT MOST 1048576: true; the input reads as it did. -/
def hostBackUptoRow : OpenClaim := { program := "ytgldmliemeadpaadoor", sum := "947d98b484f1f8c36e2e7d17b3ea9405a3621e46ba485a745fcd3ee688bc43c6", func := "parapet/parapetlaw10.HostBack", spec := "hostBack", inPlace := ["internal/bytealg.IndexByteString", "internal/bytealg.CountString", "internal/bytealg.IndexString"], recurses := true, named := ["unicode/utf8.first", "unicode/utf8.acceptRanges", "internal/bytealg.MaxLen"], apart := false, laid := [("unicode/utf8.acceptRanges", laid_unicode_utf8_acceptRanges), ("unicode/utf8.first", laid_unicode_utf8_first)], narrowed := true }
def HostBackUptoSaid : Prop := hostBackUptoRow.holds Tryd.pinned (OpenSpec.upto hostBackSpec)

end Rows
end Go.Proofs.YtgldmliemeadpaaDoor
