/-
  DERIVED. GIVEN WITH THE SEED: THE CARDS: each row of YtmhndfnmdkeiaaaDoorRows.lean that lists a variable, with what it lists TIED to the program's text (the seventh form; the later family's looks); each row that meets fmt, with fmt's text TOLD by the authors' own Lean function (tested against real Go, not proved from fmt's source: count such statements apart). THE CARD IS WHAT COUNTS. Prove the row's statement (the work); the ties are given (YtmhndfnmdkeiaaaDoorTie.lean); close each card by the builder's one call (the guide's Derived/Test/ToyasCard.lean, 'card_holds'). Laid BY PROGRAM, IN A SANDBOX (cutbox-door.mjs). By AI agents, Wed Nov 11 2026. No macro, syntax, notation, axiom, sorry.
-/
import Derived.Test.YtmhndfnmdkeiaaaDoorRows
import GoSem.ClaimSeven
namespace Go.Proofs.YtmhndfnmdkeiaaaDoor
namespace Rows

/-- THE TIED CARD OF 'payofflaw12.ImageCanons'. -/
def imageCanonsCard : Claim7 := { stood := { row := imageCanonsRow, standIns := [], harness := (true, "00a9e17bcd9633f4066e63925d447897551492a50c86548a7d16340b03be140c"), looks := true }, kinds := [], alts := [], laidByText := true, laidKinds := [.data, .data], laidTests := true, laidLooks := .later }
def ImageCanonsCardSaid : Prop := Claim7.holds Tryd.pinned (.plain (OpenSpec.ofChange imageCanonsSpec)) imageCanonsCard

/-- THE TIED CARD OF 'payofflaw12.ImageBack'. -/
def imageBackCard : Claim7 := { stood := { row := imageBackRow, standIns := [], harness := (true, "00a9e17bcd9633f4066e63925d447897551492a50c86548a7d16340b03be140c"), looks := true }, kinds := [], alts := [], laidByText := true, laidKinds := [.data], laidTests := true, laidLooks := .later }
def ImageBackCardSaid : Prop := Claim7.holds Tryd.pinned (.plain (OpenSpec.ofChange imageBackSpec)) imageBackCard

/-- THE TIED CARD OF 'payofflaw12.ImageOne'. -/
def imageOneCard : Claim7 := { stood := { row := imageOneRow, standIns := [], harness := (true, "00a9e17bcd9633f4066e63925d447897551492a50c86548a7d16340b03be140c"), looks := true }, kinds := [], alts := [], laidByText := true, laidKinds := [.data], laidTests := true, laidLooks := .later }
def ImageOneCardSaid : Prop := Claim7.holds Tryd.pinned (.plain (OpenSpec.ofChange imageOneSpec)) imageOneCard

/-- THE TIED CARD OF 'payofflaw12.ImageSections'. -/
def imageSectionsCard : Claim7 := { stood := { row := imageSectionsRow, standIns := [], harness := (true, "00a9e17bcd9633f4066e63925d447897551492a50c86548a7d16340b03be140c"), looks := true }, kinds := [], alts := [], laidByText := true, laidKinds := [.data], laidTests := true, laidLooks := .later }
def ImageSectionsCardSaid : Prop := Claim7.holds Tryd.pinned (.plain (OpenSpec.ofChange imageSectionsSpec)) imageSectionsCard

/-- THE TIED CARD OF 'payofflaw12.ImageTurned'. -/
def imageTurnedCard : Claim7 := { stood := { row := imageTurnedRow, standIns := [], harness := (true, "00a9e17bcd9633f4066e63925d447897551492a50c86548a7d16340b03be140c"), looks := true }, kinds := [], alts := [], laidByText := true, laidKinds := [.data], laidTests := true, laidLooks := .later }
def ImageTurnedCardSaid : Prop := Claim7.holds Tryd.pinned (.plain (OpenSpec.ofChange imageTurnedSpec)) imageTurnedCard

/-- THE SECOND FORM's CARD OF 'payofflaw12.ImageCanons'. -/
def imageCanonsUptoCard : Claim7 := { stood := { row := imageCanonsUptoRow, standIns := [], harness := (true, "00a9e17bcd9633f4066e63925d447897551492a50c86548a7d16340b03be140c"), looks := true }, kinds := [], alts := [], laidByText := true, laidKinds := [.data, .data], laidTests := true, laidLooks := .later }
def ImageCanonsUptoCardSaid : Prop := Claim7.holds Tryd.pinned (.plain (OpenSpec.upto imageCanonsSpec)) imageCanonsUptoCard

/-- THE SECOND FORM's CARD OF 'payofflaw12.ImageBack'. -/
def imageBackUptoCard : Claim7 := { stood := { row := imageBackUptoRow, standIns := [], harness := (true, "00a9e17bcd9633f4066e63925d447897551492a50c86548a7d16340b03be140c"), looks := true }, kinds := [], alts := [], laidByText := true, laidKinds := [.data], laidTests := true, laidLooks := .later }
def ImageBackUptoCardSaid : Prop := Claim7.holds Tryd.pinned (.plain (OpenSpec.upto imageBackSpec)) imageBackUptoCard

/-- THE SECOND FORM's CARD OF 'payofflaw12.ImageOne'. -/
def imageOneUptoCard : Claim7 := { stood := { row := imageOneUptoRow, standIns := [], harness := (true, "00a9e17bcd9633f4066e63925d447897551492a50c86548a7d16340b03be140c"), looks := true }, kinds := [], alts := [], laidByText := true, laidKinds := [.data], laidTests := true, laidLooks := .later }
def ImageOneUptoCardSaid : Prop := Claim7.holds Tryd.pinned (.plain (OpenSpec.upto imageOneSpec)) imageOneUptoCard

/-- THE SECOND FORM's CARD OF 'payofflaw12.ImageSections'. -/
def imageSectionsUptoCard : Claim7 := { stood := { row := imageSectionsUptoRow, standIns := [], harness := (true, "00a9e17bcd9633f4066e63925d447897551492a50c86548a7d16340b03be140c"), looks := true }, kinds := [], alts := [], laidByText := true, laidKinds := [.data], laidTests := true, laidLooks := .later }
def ImageSectionsUptoCardSaid : Prop := Claim7.holds Tryd.pinned (.plain (OpenSpec.upto imageSectionsSpec)) imageSectionsUptoCard

/-- THE SECOND FORM's CARD OF 'payofflaw12.ImageTurned'. -/
def imageTurnedUptoCard : Claim7 := { stood := { row := imageTurnedUptoRow, standIns := [], harness := (true, "00a9e17bcd9633f4066e63925d447897551492a50c86548a7d16340b03be140c"), looks := true }, kinds := [], alts := [], laidByText := true, laidKinds := [.data], laidTests := true, laidLooks := .later }
def ImageTurnedUptoCardSaid : Prop := Claim7.holds Tryd.pinned (.plain (OpenSpec.upto imageTurnedSpec)) imageTurnedUptoCard
end Rows
end Go.Proofs.YtmhndfnmdkeiaaaDoor
