/-
  DERIVED. GIVEN WITH THE SEED: THE CARDS: each row of YtcaaebjjgbcjpaaGreatDoorRows.lean that lists a variable, with what it lists TIED to the program's text (the seventh form; the later family's looks); each row that meets fmt, with fmt's text TOLD by the authors' own Lean function (tested against real Go, not proved from fmt's source: count such statements apart). THE CARD IS WHAT COUNTS. Prove the row's statement (the work); the ties are given (YtcaaebjjgbcjpaaGreatDoorTie.lean); close each card by the builder's one call (the guide's Derived/Test/ToyasCard.lean, 'card_holds'). Laid BY PROGRAM, IN A SANDBOX (cutbox-door.mjs). By AI agents, Wed Nov 11 2026. No macro, syntax, notation, axiom, sorry.
-/
import Derived.Test.YtcaaebjjgbcjpaaGreatDoorRows
import GoSem.ClaimSeven
namespace Go.Proofs.YtcaaebjjgbcjpaaGreatDoor
namespace Rows

/-- THE TIED CARD OF 'parapetlaw23.EvalAsks'. -/
def evalAsksCard : Claim7 := { stood := { row := evalAsksRow, standIns := [], harness := (true, "a4d42fa0b0d2d7f7afd4f4cd12b0553f321a3b8180a34fdd07c7c08e17159351"), looks := true }, kinds := [], alts := [], laidByText := true, laidKinds := [.data, .pinned], laidTests := true, laidLooks := .later }
def EvalAsksCardSaid : Prop := Claim7.holds Tryz.pinned (.plain (OpenSpec.ofChange evalAsksSpec)) evalAsksCard

/-- THE TIED CARD OF 'parapetlaw23.EvalRefused'. -/
def evalRefusedCard : Claim7 := { stood := { row := evalRefusedRow, standIns := [], harness := (true, "a4d42fa0b0d2d7f7afd4f4cd12b0553f321a3b8180a34fdd07c7c08e17159351"), looks := true }, kinds := [], alts := [], laidByText := true, laidKinds := [.data, .pinned], laidTests := true, laidLooks := .later }
def EvalRefusedCardSaid : Prop := Claim7.holds Tryz.pinned (.plain (OpenSpec.ofChange evalRefusedSpec)) evalRefusedCard

/-- THE SECOND FORM's CARD OF 'parapetlaw23.EvalAsks'. -/
def evalAsksUptoCard : Claim7 := { stood := { row := evalAsksUptoRow, standIns := [], harness := (true, "a4d42fa0b0d2d7f7afd4f4cd12b0553f321a3b8180a34fdd07c7c08e17159351"), looks := true }, kinds := [], alts := [], laidByText := true, laidKinds := [.data, .pinned], laidTests := true, laidLooks := .later }
def EvalAsksUptoCardSaid : Prop := Claim7.holds Tryz.pinned (.plain (OpenSpec.upto evalAsksSpec)) evalAsksUptoCard

/-- THE SECOND FORM's CARD OF 'parapetlaw23.EvalRefused'. -/
def evalRefusedUptoCard : Claim7 := { stood := { row := evalRefusedUptoRow, standIns := [], harness := (true, "a4d42fa0b0d2d7f7afd4f4cd12b0553f321a3b8180a34fdd07c7c08e17159351"), looks := true }, kinds := [], alts := [], laidByText := true, laidKinds := [.data, .pinned], laidTests := true, laidLooks := .later }
def EvalRefusedUptoCardSaid : Prop := Claim7.holds Tryz.pinned (.plain (OpenSpec.upto evalRefusedSpec)) evalRefusedUptoCard
end Rows
end Go.Proofs.YtcaaebjjgbcjpaaGreatDoor
