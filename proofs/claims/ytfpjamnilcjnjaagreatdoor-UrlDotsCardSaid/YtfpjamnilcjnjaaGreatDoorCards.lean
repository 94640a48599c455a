/-
  DERIVED. GIVEN WITH THE SEED: THE CARDS: each row of YtfpjamnilcjnjaaGreatDoorRows.lean that lists a variable, with what it lists TIED to the program's text (the seventh form; the later family's looks); each row that meets fmt, with fmt's text TOLD by the authors' own Lean function (tested against real Go, not proved from fmt's source: count such statements apart). THE CARD IS WHAT COUNTS. Prove the row's statement (the work); the ties are given (YtfpjamnilcjnjaaGreatDoorTie.lean); close each card by the builder's one call (the guide's Derived/Test/ToyasCard.lean, 'card_holds'). Laid BY PROGRAM, IN A SANDBOX (cutbox-door.mjs). By AI agents, Wed Nov 11 2026. No macro, syntax, notation, axiom, sorry.
-/
import Derived.Test.YtfpjamnilcjnjaaGreatDoorRows
import GoSem.ClaimSeven
namespace Go.Proofs.YtfpjamnilcjnjaaGreatDoor
namespace Rows

/-- THE TIED CARD OF 'parapetlaw11.UrlParses'. -/
def urlParsesCard : Claim7 := { stood := { row := urlParsesRow, standIns := [], harness := (true, "bc7a7b817ff257e825cf10d2c9373430cb0a6114038bbf6a89744c15201a790b"), looks := true }, kinds := [], alts := [], laidByText := true, laidKinds := [.data, .pinned], laidTests := true, laidLooks := .later }
def UrlParsesCardSaid : Prop := Claim7.holds Tryz.pinned (.plain (OpenSpec.ofChange urlParsesSpec)) urlParsesCard

/-- THE TIED CARD OF 'parapetlaw11.UrlTexts'. -/
def urlTextsCard : Claim7 := { stood := { row := urlTextsRow, standIns := [], harness := (true, "bc7a7b817ff257e825cf10d2c9373430cb0a6114038bbf6a89744c15201a790b"), looks := true }, kinds := [], alts := [], laidByText := true, laidKinds := [.data, .pinned], laidTests := true, laidLooks := .later }
def UrlTextsCardSaid : Prop := Claim7.holds Tryz.pinned (.plain (OpenSpec.ofChange urlTextsSpec)) urlTextsCard

/-- THE TIED CARD OF 'parapetlaw11.UrlBack'. -/
def urlBackCard : Claim7 := { stood := { row := urlBackRow, standIns := [], harness := (true, "bc7a7b817ff257e825cf10d2c9373430cb0a6114038bbf6a89744c15201a790b"), looks := true }, kinds := [], alts := [], laidByText := true, laidKinds := [.data, .pinned], laidTests := true, laidLooks := .later }
def UrlBackCardSaid : Prop := Claim7.holds Tryz.pinned (.plain (OpenSpec.ofChange urlBackSpec)) urlBackCard

/-- THE TIED CARD OF 'parapetlaw11.UrlBlanks'. -/
def urlBlanksCard : Claim7 := { stood := { row := urlBlanksRow, standIns := [], harness := (true, "bc7a7b817ff257e825cf10d2c9373430cb0a6114038bbf6a89744c15201a790b"), looks := true }, kinds := [], alts := [], laidByText := true, laidKinds := [.data, .pinned], laidTests := true, laidLooks := .later }
def UrlBlanksCardSaid : Prop := Claim7.holds Tryz.pinned (.plain (OpenSpec.ofChange urlBlanksSpec)) urlBlanksCard

/-- THE TIED CARD OF 'parapetlaw11.UrlDots'. -/
def urlDotsCard : Claim7 := { stood := { row := urlDotsRow, standIns := [], harness := (true, "bc7a7b817ff257e825cf10d2c9373430cb0a6114038bbf6a89744c15201a790b"), looks := true }, kinds := [], alts := [], laidByText := true, laidKinds := [.data, .pinned], laidTests := true, laidLooks := .later }
def UrlDotsCardSaid : Prop := Claim7.holds Tryz.pinned (.plain (OpenSpec.ofChange urlDotsSpec)) urlDotsCard

/-- THE TIED CARD OF 'parapetlaw11.UrlParts'. -/
def urlPartsCard : Claim7 := { stood := { row := urlPartsRow, standIns := [], harness := (true, "bc7a7b817ff257e825cf10d2c9373430cb0a6114038bbf6a89744c15201a790b"), looks := true }, kinds := [], alts := [], laidByText := true, laidKinds := [.data, .pinned], laidTests := true, laidLooks := .later }
def UrlPartsCardSaid : Prop := Claim7.holds Tryz.pinned (.plain (OpenSpec.ofChange urlPartsSpec)) urlPartsCard

/-- THE SECOND FORM's CARD OF 'parapetlaw11.UrlParses'. -/
def urlParsesUptoCard : Claim7 := { stood := { row := urlParsesUptoRow, standIns := [], harness := (true, "bc7a7b817ff257e825cf10d2c9373430cb0a6114038bbf6a89744c15201a790b"), looks := true }, kinds := [], alts := [], laidByText := true, laidKinds := [.data, .pinned], laidTests := true, laidLooks := .later }
def UrlParsesUptoCardSaid : Prop := Claim7.holds Tryz.pinned (.plain (OpenSpec.upto urlParsesSpec)) urlParsesUptoCard

/-- THE SECOND FORM's CARD OF 'parapetlaw11.UrlTexts'. -/
def urlTextsUptoCard : Claim7 := { stood := { row := urlTextsUptoRow, standIns := [], harness := (true, "bc7a7b817ff257e825cf10d2c9373430cb0a6114038bbf6a89744c15201a790b"), looks := true }, kinds := [], alts := [], laidByText := true, laidKinds := [.data, .pinned], laidTests := true, laidLooks := .later }
def UrlTextsUptoCardSaid : Prop := Claim7.holds Tryz.pinned (.plain (OpenSpec.upto urlTextsSpec)) urlTextsUptoCard

/-- THE SECOND FORM's CARD OF 'parapetlaw11.UrlBack'. -/
def urlBackUptoCard : Claim7 := { stood := { row := urlBackUptoRow, standIns := [], harness := (true, "bc7a7b817ff257e825cf10d2c9373430cb0a6114038bbf6a89744c15201a790b"), looks := true }, kinds := [], alts := [], laidByText := true, laidKinds := [.data, .pinned], laidTests := true, laidLooks := .later }
def UrlBackUptoCardSaid : Prop := Claim7.holds Tryz.pinned (.plain (OpenSpec.upto urlBackSpec)) urlBackUptoCard

/-- THE SECOND FORM's CARD OF 'parapetlaw11.UrlBlanks'. -/
def urlBlanksUptoCard : Claim7 := { stood := { row := urlBlanksUptoRow, standIns := [], harness := (true, "bc7a7b817ff257e825cf10d2c9373430cb0a6114038bbf6a89744c15201a790b"), looks := true }, kinds := [], alts := [], laidByText := true, laidKinds := [.data, .pinned], laidTests := true, laidLooks := .later }
def UrlBlanksUptoCardSaid : Prop := Claim7.holds Tryz.pinned (.plain (OpenSpec.upto urlBlanksSpec)) urlBlanksUptoCard

/-- THE SECOND FORM's CARD OF 'parapetlaw11.UrlDots'. -/
def urlDotsUptoCard : Claim7 := { stood := { row := urlDotsUptoRow, standIns := [], harness := (true, "bc7a7b817ff257e825cf10d2c9373430cb0a6114038bbf6a89744c15201a790b"), looks := true }, kinds := [], alts := [], laidByText := true, laidKinds := [.data, .pinned], laidTests := true, laidLooks := .later }
def UrlDotsUptoCardSaid : Prop := Claim7.holds Tryz.pinned (.plain (OpenSpec.upto urlDotsSpec)) urlDotsUptoCard

/-- THE SECOND FORM's CARD OF 'parapetlaw11.UrlParts'. -/
def urlPartsUptoCard : Claim7 := { stood := { row := urlPartsUptoRow, standIns := [], harness := (true, "bc7a7b817ff257e825cf10d2c9373430cb0a6114038bbf6a89744c15201a790b"), looks := true }, kinds := [], alts := [], laidByText := true, laidKinds := [.data, .pinned], laidTests := true, laidLooks := .later }
def UrlPartsUptoCardSaid : Prop := Claim7.holds Tryz.pinned (.plain (OpenSpec.upto urlPartsSpec)) urlPartsUptoCard
end Rows
end Go.Proofs.YtfpjamnilcjnjaaGreatDoor
