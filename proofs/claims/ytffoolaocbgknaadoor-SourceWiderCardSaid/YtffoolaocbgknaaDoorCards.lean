/-
  DERIVED. GIVEN WITH THE SEED: THE CARDS: each row of YtffoolaocbgknaaDoorRows.lean that lists a variable, with what it lists TIED to the program's text (the seventh form; the later family's looks); each row that meets fmt, with fmt's text TOLD by the authors' own Lean function (tested against real Go, not proved from fmt's source: count such statements apart). THE CARD IS WHAT COUNTS. Prove the row's statement (the work); the ties are given (YtffoolaocbgknaaDoorTie.lean); close each card by the builder's one call (the guide's Derived/Test/ToyasCard.lean, 'card_holds'). Laid BY PROGRAM, IN A SANDBOX (cutbox-door.mjs). By AI agents, Wed Nov 11 2026. No macro, syntax, notation, axiom, sorry.
-/
import Derived.Test.YtffoolaocbgknaaDoorRows
import GoSem.ClaimSeven
namespace Go.Proofs.YtffoolaocbgknaaDoor
namespace Rows

/-- THE TIED CARD OF 'parapetlaw15.SourceWider'. -/
def sourceWiderCard : Claim7 := { stood := { row := sourceWiderRow, standIns := [], harness := (true, "0ce0f0d4891b5b19c0038b861f09c0fc3ece74106c6a71b189415cf1c2194153"), looks := false }, kinds := [], alts := [], laidByText := true, laidKinds := [.data, .pinned], laidTests := true, laidLooks := .later }
def SourceWiderCardSaid : Prop := Claim7.holds Tryd.pinned (.plain (OpenSpec.ofChange sourceWiderSpec)) sourceWiderCard

/-- THE TIED CARD OF 'parapetlaw15.SourceSelf'. -/
def sourceSelfCard : Claim7 := { stood := { row := sourceSelfRow, standIns := [], harness := (true, "0ce0f0d4891b5b19c0038b861f09c0fc3ece74106c6a71b189415cf1c2194153"), looks := false }, kinds := [], alts := [], laidByText := true, laidKinds := [.data, .pinned], laidTests := true, laidLooks := .later }
def SourceSelfCardSaid : Prop := Claim7.holds Tryd.pinned (.plain (OpenSpec.ofChange sourceSelfSpec)) sourceSelfCard

/-- THE SECOND FORM's CARD OF 'parapetlaw15.SourceWider'. -/
def sourceWiderUptoCard : Claim7 := { stood := { row := sourceWiderUptoRow, standIns := [], harness := (true, "0ce0f0d4891b5b19c0038b861f09c0fc3ece74106c6a71b189415cf1c2194153"), looks := false }, kinds := [], alts := [], laidByText := true, laidKinds := [.data, .pinned], laidTests := true, laidLooks := .later }
def SourceWiderUptoCardSaid : Prop := Claim7.holds Tryd.pinned (.plain (OpenSpec.upto sourceWiderSpec)) sourceWiderUptoCard

/-- THE SECOND FORM's CARD OF 'parapetlaw15.SourceSelf'. -/
def sourceSelfUptoCard : Claim7 := { stood := { row := sourceSelfUptoRow, standIns := [], harness := (true, "0ce0f0d4891b5b19c0038b861f09c0fc3ece74106c6a71b189415cf1c2194153"), looks := false }, kinds := [], alts := [], laidByText := true, laidKinds := [.data, .pinned], laidTests := true, laidLooks := .later }
def SourceSelfUptoCardSaid : Prop := Claim7.holds Tryd.pinned (.plain (OpenSpec.upto sourceSelfSpec)) sourceSelfUptoCard
end Rows
end Go.Proofs.YtffoolaocbgknaaDoor
