/-
  DERIVED. GIVEN WITH THE SEED: THE CARDS: each row of YtgpnmhlpcjmehaaDoorRows.lean that lists a variable, with what it lists TIED to the program's text (the seventh form; the later family's looks); each row that meets fmt, with fmt's text TOLD by the authors' own Lean function (tested against real Go, not proved from fmt's source: count such statements apart). THE CARD IS WHAT COUNTS. Prove the row's statement (the work); the ties are given (YtgpnmhlpcjmehaaDoorTie.lean); close each card by the builder's one call (the guide's Derived/Test/ToyasCard.lean, 'card_holds'). Laid BY PROGRAM, IN A SANDBOX (cutbox-door.mjs). By AI agents, Wed Nov 11 2026. No macro, syntax, notation, axiom, sorry.
-/
import Derived.Test.YtgpnmhlpcjmehaaDoorRows
import GoSem.ClaimSeven
namespace Go.Proofs.YtgpnmhlpcjmehaaDoor
namespace Rows

/-- THE TIED CARD OF 'sundiallaw03.CivilDays'. -/
def civilDaysCard : Claim7 := { stood := { row := civilDaysRow, standIns := [], harness := (true, "df5ea97cad7453b609264aa09eec3d4ec6100916da63f808a370e56976ff1847"), looks := false }, kinds := [], alts := [], laidByText := true, laidKinds := [.data, .data, .data], laidTests := true, laidLooks := .later }
def CivilDaysCardSaid : Prop := Claim7.holds Tryd.pinned (.plain (OpenSpec.ofChange civilDaysSpec)) civilDaysCard

/-- THE TIED CARD OF 'sundiallaw03.CivilSteps'. -/
def civilStepsCard : Claim7 := { stood := { row := civilStepsRow, standIns := [], harness := (true, "df5ea97cad7453b609264aa09eec3d4ec6100916da63f808a370e56976ff1847"), looks := false }, kinds := [], alts := [], laidByText := true, laidKinds := [.data, .data, .data], laidTests := true, laidLooks := .later }
def CivilStepsCardSaid : Prop := Claim7.holds Tryd.pinned (.plain (OpenSpec.ofChange civilStepsSpec)) civilStepsCard

/-- THE TIED CARD OF 'sundiallaw03.CivilTexts'. -/
def civilTextsCard : Claim7 := { stood := { row := civilTextsRow, standIns := [], harness := (true, "df5ea97cad7453b609264aa09eec3d4ec6100916da63f808a370e56976ff1847"), looks := false }, kinds := [], alts := [], laidByText := true, laidKinds := [.data, .data, .data], laidTests := true, laidLooks := .later }
def CivilTextsCardSaid : Prop := Claim7.holds Tryd.pinned (.plain (OpenSpec.ofChange civilTextsSpec)) civilTextsCard

/-- THE TIED CARD OF 'sundiallaw03.CivilFaces'. -/
def civilFacesCard : Claim7 := { stood := { row := civilFacesRow, standIns := [], harness := (true, "df5ea97cad7453b609264aa09eec3d4ec6100916da63f808a370e56976ff1847"), looks := false }, kinds := [], alts := [], laidByText := true, laidKinds := [.data, .data, .data], laidTests := true, laidLooks := .later }
def CivilFacesCardSaid : Prop := Claim7.holds Tryd.pinned (.plain (OpenSpec.ofChange civilFacesSpec)) civilFacesCard

/-- THE TIED CARD OF 'sundiallaw03.CivilBack'. -/
def civilBackCard : Claim7 := { stood := { row := civilBackRow, standIns := [], harness := (true, "df5ea97cad7453b609264aa09eec3d4ec6100916da63f808a370e56976ff1847"), looks := false }, kinds := [], alts := [], laidByText := true, laidKinds := [.data, .data, .data], laidTests := true, laidLooks := .later }
def CivilBackCardSaid : Prop := Claim7.holds Tryd.pinned (.plain (OpenSpec.ofChange civilBackSpec)) civilBackCard

/-- THE SECOND FORM's CARD OF 'sundiallaw03.CivilDays'. -/
def civilDaysUptoCard : Claim7 := { stood := { row := civilDaysUptoRow, standIns := [], harness := (true, "df5ea97cad7453b609264aa09eec3d4ec6100916da63f808a370e56976ff1847"), looks := false }, kinds := [], alts := [], laidByText := true, laidKinds := [.data, .data, .data], laidTests := true, laidLooks := .later }
def CivilDaysUptoCardSaid : Prop := Claim7.holds Tryd.pinned (.plain (OpenSpec.upto civilDaysSpec)) civilDaysUptoCard

/-- THE SECOND FORM's CARD OF 'sundiallaw03.CivilSteps'. -/
def civilStepsUptoCard : Claim7 := { stood := { row := civilStepsUptoRow, standIns := [], harness := (true, "df5ea97cad7453b609264aa09eec3d4ec6100916da63f808a370e56976ff1847"), looks := false }, kinds := [], alts := [], laidByText := true, laidKinds := [.data, .data, .data], laidTests := true, laidLooks := .later }
def CivilStepsUptoCardSaid : Prop := Claim7.holds Tryd.pinned (.plain (OpenSpec.upto civilStepsSpec)) civilStepsUptoCard

/-- THE SECOND FORM's CARD OF 'sundiallaw03.CivilTexts'. -/
def civilTextsUptoCard : Claim7 := { stood := { row := civilTextsUptoRow, standIns := [], harness := (true, "df5ea97cad7453b609264aa09eec3d4ec6100916da63f808a370e56976ff1847"), looks := false }, kinds := [], alts := [], laidByText := true, laidKinds := [.data, .data, .data], laidTests := true, laidLooks := .later }
def CivilTextsUptoCardSaid : Prop := Claim7.holds Tryd.pinned (.plain (OpenSpec.upto civilTextsSpec)) civilTextsUptoCard

/-- THE SECOND FORM's CARD OF 'sundiallaw03.CivilFaces'. -/
def civilFacesUptoCard : Claim7 := { stood := { row := civilFacesUptoRow, standIns := [], harness := (true, "df5ea97cad7453b609264aa09eec3d4ec6100916da63f808a370e56976ff1847"), looks := false }, kinds := [], alts := [], laidByText := true, laidKinds := [.data, .data, .data], laidTests := true, laidLooks := .later }
def CivilFacesUptoCardSaid : Prop := Claim7.holds Tryd.pinned (.plain (OpenSpec.upto civilFacesSpec)) civilFacesUptoCard

/-- THE SECOND FORM's CARD OF 'sundiallaw03.CivilBack'. -/
def civilBackUptoCard : Claim7 := { stood := { row := civilBackUptoRow, standIns := [], harness := (true, "df5ea97cad7453b609264aa09eec3d4ec6100916da63f808a370e56976ff1847"), looks := false }, kinds := [], alts := [], laidByText := true, laidKinds := [.data, .data, .data], laidTests := true, laidLooks := .later }
def CivilBackUptoCardSaid : Prop := Claim7.holds Tryd.pinned (.plain (OpenSpec.upto civilBackSpec)) civilBackUptoCard
end Rows
end Go.Proofs.YtgpnmhlpcjmehaaDoor
