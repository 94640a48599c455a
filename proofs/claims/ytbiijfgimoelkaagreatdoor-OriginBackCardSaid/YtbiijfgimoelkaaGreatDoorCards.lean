/-
  DERIVED. GIVEN WITH THE SEED: THE CARDS: each row of YtbiijfgimoelkaaGreatDoorRows.lean that lists a variable, with what it lists TIED to the program's text (the seventh form; the later family's looks); each row that meets fmt, with fmt's text TOLD by the authors' own Lean function (tested against real Go, not proved from fmt's source: count such statements apart). THE CARD IS WHAT COUNTS. Prove the row's statement (the work); the ties are given (YtbiijfgimoelkaaGreatDoorTie.lean); close each card by the builder's one call (the guide's Derived/Test/ToyasCard.lean, 'card_holds'). Laid BY PROGRAM, IN A SANDBOX (cutbox-door.mjs). By AI agents, Wed Nov 11 2026. No macro, syntax, notation, axiom, sorry.
-/
import Derived.Test.YtbiijfgimoelkaaGreatDoorRows
import GoSem.ClaimSeven
namespace Go.Proofs.YtbiijfgimoelkaaGreatDoor
namespace Rows

/-- THE TIED CARD OF 'parapetlaw12.OriginTexts'. -/
def originTextsCard : Claim7 := { stood := { row := originTextsRow, standIns := [], harness := (true, "fb86d5068c1fffc4d19a77069c513bcecca2257d6402d4c0344af02ed157de54"), looks := true }, kinds := [], alts := [], laidByText := true, laidKinds := [.data, .pinned], laidTests := true, laidLooks := .later }
def OriginTextsCardSaid : Prop := Claim7.holds Tryz.pinned (.plain (OpenSpec.ofChange originTextsSpec)) originTextsCard

/-- THE TIED CARD OF 'parapetlaw12.OriginKinds'. -/
def originKindsCard : Claim7 := { stood := { row := originKindsRow, standIns := [], harness := (true, "fb86d5068c1fffc4d19a77069c513bcecca2257d6402d4c0344af02ed157de54"), looks := true }, kinds := [], alts := [], laidByText := true, laidKinds := [.data, .pinned], laidTests := true, laidLooks := .later }
def OriginKindsCardSaid : Prop := Claim7.holds Tryz.pinned (.plain (OpenSpec.ofChange originKindsSpec)) originKindsCard

/-- THE TIED CARD OF 'parapetlaw12.OriginPlain'. -/
def originPlainCard : Claim7 := { stood := { row := originPlainRow, standIns := [], harness := (true, "fb86d5068c1fffc4d19a77069c513bcecca2257d6402d4c0344af02ed157de54"), looks := true }, kinds := [], alts := [], laidByText := true, laidKinds := [.data, .pinned], laidTests := true, laidLooks := .later }
def OriginPlainCardSaid : Prop := Claim7.holds Tryz.pinned (.plain (OpenSpec.ofChange originPlainSpec)) originPlainCard

/-- THE TIED CARD OF 'parapetlaw12.OriginTrusts'. -/
def originTrustsCard : Claim7 := { stood := { row := originTrustsRow, standIns := [], harness := (true, "fb86d5068c1fffc4d19a77069c513bcecca2257d6402d4c0344af02ed157de54"), looks := true }, kinds := [], alts := [], laidByText := true, laidKinds := [.data, .pinned], laidTests := true, laidLooks := .later }
def OriginTrustsCardSaid : Prop := Claim7.holds Tryz.pinned (.plain (OpenSpec.ofChange originTrustsSpec)) originTrustsCard

/-- THE TIED CARD OF 'parapetlaw12.OriginParses'. -/
def originParsesCard : Claim7 := { stood := { row := originParsesRow, standIns := [], harness := (true, "fb86d5068c1fffc4d19a77069c513bcecca2257d6402d4c0344af02ed157de54"), looks := true }, kinds := [], alts := [], laidByText := true, laidKinds := [.data, .pinned], laidTests := true, laidLooks := .later }
def OriginParsesCardSaid : Prop := Claim7.holds Tryz.pinned (.plain (OpenSpec.ofChange originParsesSpec)) originParsesCard

/-- THE TIED CARD OF 'parapetlaw12.OriginBack'. -/
def originBackCard : Claim7 := { stood := { row := originBackRow, standIns := [], harness := (true, "fb86d5068c1fffc4d19a77069c513bcecca2257d6402d4c0344af02ed157de54"), looks := true }, kinds := [], alts := [], laidByText := true, laidKinds := [.data, .pinned], laidTests := true, laidLooks := .later }
def OriginBackCardSaid : Prop := Claim7.holds Tryz.pinned (.plain (OpenSpec.ofChange originBackSpec)) originBackCard

/-- THE SECOND FORM's CARD OF 'parapetlaw12.OriginTexts'. -/
def originTextsUptoCard : Claim7 := { stood := { row := originTextsUptoRow, standIns := [], harness := (true, "fb86d5068c1fffc4d19a77069c513bcecca2257d6402d4c0344af02ed157de54"), looks := true }, kinds := [], alts := [], laidByText := true, laidKinds := [.data, .pinned], laidTests := true, laidLooks := .later }
def OriginTextsUptoCardSaid : Prop := Claim7.holds Tryz.pinned (.plain (OpenSpec.upto originTextsSpec)) originTextsUptoCard

/-- THE SECOND FORM's CARD OF 'parapetlaw12.OriginKinds'. -/
def originKindsUptoCard : Claim7 := { stood := { row := originKindsUptoRow, standIns := [], harness := (true, "fb86d5068c1fffc4d19a77069c513bcecca2257d6402d4c0344af02ed157de54"), looks := true }, kinds := [], alts := [], laidByText := true, laidKinds := [.data, .pinned], laidTests := true, laidLooks := .later }
def OriginKindsUptoCardSaid : Prop := Claim7.holds Tryz.pinned (.plain (OpenSpec.upto originKindsSpec)) originKindsUptoCard

/-- THE SECOND FORM's CARD OF 'parapetlaw12.OriginPlain'. -/
def originPlainUptoCard : Claim7 := { stood := { row := originPlainUptoRow, standIns := [], harness := (true, "fb86d5068c1fffc4d19a77069c513bcecca2257d6402d4c0344af02ed157de54"), looks := true }, kinds := [], alts := [], laidByText := true, laidKinds := [.data, .pinned], laidTests := true, laidLooks := .later }
def OriginPlainUptoCardSaid : Prop := Claim7.holds Tryz.pinned (.plain (OpenSpec.upto originPlainSpec)) originPlainUptoCard

/-- THE SECOND FORM's CARD OF 'parapetlaw12.OriginTrusts'. -/
def originTrustsUptoCard : Claim7 := { stood := { row := originTrustsUptoRow, standIns := [], harness := (true, "fb86d5068c1fffc4d19a77069c513bcecca2257d6402d4c0344af02ed157de54"), looks := true }, kinds := [], alts := [], laidByText := true, laidKinds := [.data, .pinned], laidTests := true, laidLooks := .later }
def OriginTrustsUptoCardSaid : Prop := Claim7.holds Tryz.pinned (.plain (OpenSpec.upto originTrustsSpec)) originTrustsUptoCard

/-- THE SECOND FORM's CARD OF 'parapetlaw12.OriginParses'. -/
def originParsesUptoCard : Claim7 := { stood := { row := originParsesUptoRow, standIns := [], harness := (true, "fb86d5068c1fffc4d19a77069c513bcecca2257d6402d4c0344af02ed157de54"), looks := true }, kinds := [], alts := [], laidByText := true, laidKinds := [.data, .pinned], laidTests := true, laidLooks := .later }
def OriginParsesUptoCardSaid : Prop := Claim7.holds Tryz.pinned (.plain (OpenSpec.upto originParsesSpec)) originParsesUptoCard

/-- THE SECOND FORM's CARD OF 'parapetlaw12.OriginBack'. -/
def originBackUptoCard : Claim7 := { stood := { row := originBackUptoRow, standIns := [], harness := (true, "fb86d5068c1fffc4d19a77069c513bcecca2257d6402d4c0344af02ed157de54"), looks := true }, kinds := [], alts := [], laidByText := true, laidKinds := [.data, .pinned], laidTests := true, laidLooks := .later }
def OriginBackUptoCardSaid : Prop := Claim7.holds Tryz.pinned (.plain (OpenSpec.upto originBackSpec)) originBackUptoCard
end Rows
end Go.Proofs.YtbiijfgimoelkaaGreatDoor
