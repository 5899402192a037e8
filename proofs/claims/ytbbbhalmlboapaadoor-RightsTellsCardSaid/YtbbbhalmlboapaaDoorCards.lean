/-
  DERIVED. GIVEN WITH THE SEED: THE CARDS: each row of YtbbbhalmlboapaaDoorRows.lean that lists a variable, with what it lists TIED to the program's text (the seventh form; the later family's looks); each row that meets fmt, with fmt's text TOLD by the authors' own Lean function (tested against real Go, not proved from fmt's source: count such statements apart). THE CARD IS WHAT COUNTS. Prove the row's statement (the work); the ties are given (YtbbbhalmlboapaaDoorTie.lean); close each card by the builder's one call (the guide's Derived/Test/ToyasCard.lean, 'card_holds'). Laid BY PROGRAM, IN A SANDBOX (cutbox-door.mjs). By AI agents, Wed Nov 11 2026. No macro, syntax, notation, axiom, sorry.
-/
import Derived.Test.YtbbbhalmlboapaaDoorRows
import GoSem.ClaimSeven
namespace Go.Proofs.YtbbbhalmlboapaaDoor
namespace Rows

/-- THE TIED CARD OF 'warrenlaw26.RightsTells'. -/
def rightsTellsCard : Claim7 := { stood := { row := rightsTellsRow, standIns := [], harness := (true, "22287b2a4a140c0005f40513ef25c731c5152f2108f91ae27569659444a06bab"), looks := true }, kinds := [], alts := [], laidByText := true, laidKinds := [.handle], laidTests := true, laidLooks := .later }
def RightsTellsCardSaid : Prop := Claim7.holds Tryd.pinned (.plain (OpenSpec.ofChange rightsTellsSpec)) rightsTellsCard

/-- THE TIED CARD OF 'warrenlaw26.RightsBack'. -/
def rightsBackCard : Claim7 := { stood := { row := rightsBackRow, standIns := [], harness := (true, "22287b2a4a140c0005f40513ef25c731c5152f2108f91ae27569659444a06bab"), looks := true }, kinds := [], alts := [], laidByText := true, laidKinds := [.handle], laidTests := true, laidLooks := .later }
def RightsBackCardSaid : Prop := Claim7.holds Tryd.pinned (.plain (OpenSpec.ofChange rightsBackSpec)) rightsBackCard

/-- THE TIED CARD OF 'warrenlaw31.MatrixTells'. -/
def matrixTellsCard : Claim7 := { stood := { row := matrixTellsRow, standIns := [], harness := (true, "22287b2a4a140c0005f40513ef25c731c5152f2108f91ae27569659444a06bab"), looks := true }, kinds := [], alts := [], laidByText := true, laidKinds := [.handle], laidTests := true, laidLooks := .later }
def MatrixTellsCardSaid : Prop := Claim7.holds Tryd.pinned (.plain (OpenSpec.ofChange matrixTellsSpec)) matrixTellsCard

/-- THE TIED CARD OF 'warrenlaw31.MatrixParts'. -/
def matrixPartsCard : Claim7 := { stood := { row := matrixPartsRow, standIns := [], harness := (true, "22287b2a4a140c0005f40513ef25c731c5152f2108f91ae27569659444a06bab"), looks := true }, kinds := [], alts := [], laidByText := true, laidKinds := [.handle], laidTests := true, laidLooks := .later }
def MatrixPartsCardSaid : Prop := Claim7.holds Tryd.pinned (.plain (OpenSpec.ofChange matrixPartsSpec)) matrixPartsCard

/-- THE TIED CARD OF 'warrenlaw31.MatrixLeaves'. -/
def matrixLeavesCard : Claim7 := { stood := { row := matrixLeavesRow, standIns := [], harness := (true, "22287b2a4a140c0005f40513ef25c731c5152f2108f91ae27569659444a06bab"), looks := true }, kinds := [], alts := [], laidByText := true, laidKinds := [.handle], laidTests := true, laidLooks := .later }
def MatrixLeavesCardSaid : Prop := Claim7.holds Tryd.pinned (.plain (OpenSpec.ofChange matrixLeavesSpec)) matrixLeavesCard

/-- THE TIED CARD OF 'warrenlaw17.BitsetTells'. -/
def bitsetTellsCard : Claim7 := { stood := { row := bitsetTellsRow, standIns := [], harness := (true, "22287b2a4a140c0005f40513ef25c731c5152f2108f91ae27569659444a06bab"), looks := true }, kinds := [], alts := [], laidByText := true, laidKinds := [.handle], laidTests := true, laidLooks := .later }
def BitsetTellsCardSaid : Prop := Claim7.holds Tryd.pinned (.plain (OpenSpec.ofChange bitsetTellsSpec)) bitsetTellsCard

/-- THE TIED CARD OF 'warrenlaw17.BitsetTakes'. -/
def bitsetTakesCard : Claim7 := { stood := { row := bitsetTakesRow, standIns := [], harness := (true, "22287b2a4a140c0005f40513ef25c731c5152f2108f91ae27569659444a06bab"), looks := true }, kinds := [], alts := [], laidByText := true, laidKinds := [.handle], laidTests := true, laidLooks := .later }
def BitsetTakesCardSaid : Prop := Claim7.holds Tryd.pinned (.plain (OpenSpec.ofChange bitsetTakesSpec)) bitsetTakesCard

/-- THE TIED CARD OF 'warrenlaw17.BitsetParts'. -/
def bitsetPartsCard : Claim7 := { stood := { row := bitsetPartsRow, standIns := [], harness := (true, "22287b2a4a140c0005f40513ef25c731c5152f2108f91ae27569659444a06bab"), looks := true }, kinds := [], alts := [], laidByText := true, laidKinds := [.handle], laidTests := true, laidLooks := .later }
def BitsetPartsCardSaid : Prop := Claim7.holds Tryd.pinned (.plain (OpenSpec.ofChange bitsetPartsSpec)) bitsetPartsCard

/-- THE TIED CARD OF 'warrenlaw05.SheetForms'. -/
def sheetFormsCard : Claim7 := { stood := { row := sheetFormsRow, standIns := [], harness := (true, "22287b2a4a140c0005f40513ef25c731c5152f2108f91ae27569659444a06bab"), looks := true }, kinds := [], alts := [], laidByText := true, laidKinds := [.handle], laidTests := true, laidLooks := .later }
def SheetFormsCardSaid : Prop := Claim7.holds Tryd.pinned (.plain (OpenSpec.ofChange sheetFormsSpec)) sheetFormsCard

/-- THE TIED CARD OF 'warrenlaw05.SheetBack'. -/
def sheetBackCard : Claim7 := { stood := { row := sheetBackRow, standIns := [], harness := (true, "22287b2a4a140c0005f40513ef25c731c5152f2108f91ae27569659444a06bab"), looks := true }, kinds := [], alts := [], laidByText := true, laidKinds := [.handle], laidTests := true, laidLooks := .later }
def SheetBackCardSaid : Prop := Claim7.holds Tryd.pinned (.plain (OpenSpec.ofChange sheetBackSpec)) sheetBackCard

/-- THE TIED CARD OF 'warrenlaw05.SheetApart'. -/
def sheetApartCard : Claim7 := { stood := { row := sheetApartRow, standIns := [], harness := (true, "22287b2a4a140c0005f40513ef25c731c5152f2108f91ae27569659444a06bab"), looks := true }, kinds := [], alts := [], laidByText := true, laidKinds := [.handle], laidTests := true, laidLooks := .later }
def SheetApartCardSaid : Prop := Claim7.holds Tryd.pinned (.plain (OpenSpec.ofChange sheetApartSpec)) sheetApartCard

/-- THE SECOND FORM's CARD OF 'warrenlaw26.RightsTells'. -/
def rightsTellsUptoCard : Claim7 := { stood := { row := rightsTellsUptoRow, standIns := [], harness := (true, "22287b2a4a140c0005f40513ef25c731c5152f2108f91ae27569659444a06bab"), looks := true }, kinds := [], alts := [], laidByText := true, laidKinds := [.handle], laidTests := true, laidLooks := .later }
def RightsTellsUptoCardSaid : Prop := Claim7.holds Tryd.pinned (.plain (OpenSpec.upto rightsTellsSpec)) rightsTellsUptoCard

/-- THE SECOND FORM's CARD OF 'warrenlaw26.RightsBack'. -/
def rightsBackUptoCard : Claim7 := { stood := { row := rightsBackUptoRow, standIns := [], harness := (true, "22287b2a4a140c0005f40513ef25c731c5152f2108f91ae27569659444a06bab"), looks := true }, kinds := [], alts := [], laidByText := true, laidKinds := [.handle], laidTests := true, laidLooks := .later }
def RightsBackUptoCardSaid : Prop := Claim7.holds Tryd.pinned (.plain (OpenSpec.upto rightsBackSpec)) rightsBackUptoCard

/-- THE SECOND FORM's CARD OF 'warrenlaw31.MatrixTells'. -/
def matrixTellsUptoCard : Claim7 := { stood := { row := matrixTellsUptoRow, standIns := [], harness := (true, "22287b2a4a140c0005f40513ef25c731c5152f2108f91ae27569659444a06bab"), looks := true }, kinds := [], alts := [], laidByText := true, laidKinds := [.handle], laidTests := true, laidLooks := .later }
def MatrixTellsUptoCardSaid : Prop := Claim7.holds Tryd.pinned (.plain (OpenSpec.upto matrixTellsSpec)) matrixTellsUptoCard

/-- THE SECOND FORM's CARD OF 'warrenlaw31.MatrixParts'. -/
def matrixPartsUptoCard : Claim7 := { stood := { row := matrixPartsUptoRow, standIns := [], harness := (true, "22287b2a4a140c0005f40513ef25c731c5152f2108f91ae27569659444a06bab"), looks := true }, kinds := [], alts := [], laidByText := true, laidKinds := [.handle], laidTests := true, laidLooks := .later }
def MatrixPartsUptoCardSaid : Prop := Claim7.holds Tryd.pinned (.plain (OpenSpec.upto matrixPartsSpec)) matrixPartsUptoCard

/-- THE SECOND FORM's CARD OF 'warrenlaw31.MatrixLeaves'. -/
def matrixLeavesUptoCard : Claim7 := { stood := { row := matrixLeavesUptoRow, standIns := [], harness := (true, "22287b2a4a140c0005f40513ef25c731c5152f2108f91ae27569659444a06bab"), looks := true }, kinds := [], alts := [], laidByText := true, laidKinds := [.handle], laidTests := true, laidLooks := .later }
def MatrixLeavesUptoCardSaid : Prop := Claim7.holds Tryd.pinned (.plain (OpenSpec.upto matrixLeavesSpec)) matrixLeavesUptoCard

/-- THE SECOND FORM's CARD OF 'warrenlaw17.BitsetTells'. -/
def bitsetTellsUptoCard : Claim7 := { stood := { row := bitsetTellsUptoRow, standIns := [], harness := (true, "22287b2a4a140c0005f40513ef25c731c5152f2108f91ae27569659444a06bab"), looks := true }, kinds := [], alts := [], laidByText := true, laidKinds := [.handle], laidTests := true, laidLooks := .later }
def BitsetTellsUptoCardSaid : Prop := Claim7.holds Tryd.pinned (.plain (OpenSpec.upto bitsetTellsSpec)) bitsetTellsUptoCard

/-- THE SECOND FORM's CARD OF 'warrenlaw17.BitsetTakes'. -/
def bitsetTakesUptoCard : Claim7 := { stood := { row := bitsetTakesUptoRow, standIns := [], harness := (true, "22287b2a4a140c0005f40513ef25c731c5152f2108f91ae27569659444a06bab"), looks := true }, kinds := [], alts := [], laidByText := true, laidKinds := [.handle], laidTests := true, laidLooks := .later }
def BitsetTakesUptoCardSaid : Prop := Claim7.holds Tryd.pinned (.plain (OpenSpec.upto bitsetTakesSpec)) bitsetTakesUptoCard

/-- THE SECOND FORM's CARD OF 'warrenlaw17.BitsetParts'. -/
def bitsetPartsUptoCard : Claim7 := { stood := { row := bitsetPartsUptoRow, standIns := [], harness := (true, "22287b2a4a140c0005f40513ef25c731c5152f2108f91ae27569659444a06bab"), looks := true }, kinds := [], alts := [], laidByText := true, laidKinds := [.handle], laidTests := true, laidLooks := .later }
def BitsetPartsUptoCardSaid : Prop := Claim7.holds Tryd.pinned (.plain (OpenSpec.upto bitsetPartsSpec)) bitsetPartsUptoCard

/-- THE SECOND FORM's CARD OF 'warrenlaw05.SheetForms'. -/
def sheetFormsUptoCard : Claim7 := { stood := { row := sheetFormsUptoRow, standIns := [], harness := (true, "22287b2a4a140c0005f40513ef25c731c5152f2108f91ae27569659444a06bab"), looks := true }, kinds := [], alts := [], laidByText := true, laidKinds := [.handle], laidTests := true, laidLooks := .later }
def SheetFormsUptoCardSaid : Prop := Claim7.holds Tryd.pinned (.plain (OpenSpec.upto sheetFormsSpec)) sheetFormsUptoCard

/-- THE SECOND FORM's CARD OF 'warrenlaw05.SheetBack'. -/
def sheetBackUptoCard : Claim7 := { stood := { row := sheetBackUptoRow, standIns := [], harness := (true, "22287b2a4a140c0005f40513ef25c731c5152f2108f91ae27569659444a06bab"), looks := true }, kinds := [], alts := [], laidByText := true, laidKinds := [.handle], laidTests := true, laidLooks := .later }
def SheetBackUptoCardSaid : Prop := Claim7.holds Tryd.pinned (.plain (OpenSpec.upto sheetBackSpec)) sheetBackUptoCard

/-- THE SECOND FORM's CARD OF 'warrenlaw05.SheetApart'. -/
def sheetApartUptoCard : Claim7 := { stood := { row := sheetApartUptoRow, standIns := [], harness := (true, "22287b2a4a140c0005f40513ef25c731c5152f2108f91ae27569659444a06bab"), looks := true }, kinds := [], alts := [], laidByText := true, laidKinds := [.handle], laidTests := true, laidLooks := .later }
def SheetApartUptoCardSaid : Prop := Claim7.holds Tryd.pinned (.plain (OpenSpec.upto sheetApartSpec)) sheetApartUptoCard
end Rows
end Go.Proofs.YtbbbhalmlboapaaDoor
