/-
  DERIVED. GIVEN WITH THE SEED: THE CARDS: each row of YtfkhijjabkhmmaaDoorRows.lean that lists a variable, with what it lists TIED to the program's text (the seventh form; the later family's looks); each row that meets fmt, with fmt's text TOLD by the authors' own Lean function (tested against real Go, not proved from fmt's source: count such statements apart). THE CARD IS WHAT COUNTS. Prove the row's statement (the work); the ties are given (YtfkhijjabkhmmaaDoorTie.lean); close each card by the builder's one call (the guide's Derived/Test/ToyasCard.lean, 'card_holds'). Laid BY PROGRAM, IN A SANDBOX (cutbox-door.mjs). By AI agents, Wed Nov 11 2026. No macro, syntax, notation, axiom, sorry.
-/
import Derived.Test.YtfkhijjabkhmmaaDoorRows
import GoSem.ClaimSeven
namespace Go.Proofs.YtfkhijjabkhmmaaDoor
namespace Rows

/-- THE TIED CARD OF 'warrenlaw08.LeafForms'. -/
def leafFormsCard : Claim7 := { stood := { row := leafFormsRow, standIns := [], harness := (true, "7a860a35fa9e1a210dee5afdf9d81b8c9fc6c6e13e8f3dcdd4426fe276b6b8ca"), looks := true }, kinds := [], alts := [], laidByText := true, laidKinds := [.handle], laidTests := true, laidLooks := .later }
def LeafFormsCardSaid : Prop := Claim7.holds Tryd.pinned (.plain (OpenSpec.ofChange leafFormsSpec)) leafFormsCard

/-- THE TIED CARD OF 'warrenlaw08.LeafBack'. -/
def leafBackCard : Claim7 := { stood := { row := leafBackRow, standIns := [], harness := (true, "7a860a35fa9e1a210dee5afdf9d81b8c9fc6c6e13e8f3dcdd4426fe276b6b8ca"), looks := true }, kinds := [], alts := [], laidByText := true, laidKinds := [.handle], laidTests := true, laidLooks := .later }
def LeafBackCardSaid : Prop := Claim7.holds Tryd.pinned (.plain (OpenSpec.ofChange leafBackSpec)) leafBackCard

/-- THE TIED CARD OF 'warrenlaw08.LeafGrows'. -/
def leafGrowsCard : Claim7 := { stood := { row := leafGrowsRow, standIns := [], harness := (true, "7a860a35fa9e1a210dee5afdf9d81b8c9fc6c6e13e8f3dcdd4426fe276b6b8ca"), looks := true }, kinds := [], alts := [], laidByText := true, laidKinds := [.handle], laidTests := true, laidLooks := .later }
def LeafGrowsCardSaid : Prop := Claim7.holds Tryd.pinned (.plain (OpenSpec.ofChange leafGrowsSpec)) leafGrowsCard

/-- THE TIED CARD OF 'warrenlaw12.TreeRuns'. -/
def treeRunsCard : Claim7 := { stood := { row := treeRunsRow, standIns := [], harness := (true, "7a860a35fa9e1a210dee5afdf9d81b8c9fc6c6e13e8f3dcdd4426fe276b6b8ca"), looks := true }, kinds := [], alts := [], laidByText := true, laidKinds := [.handle], laidTests := true, laidLooks := .later }
def TreeRunsCardSaid : Prop := Claim7.holds Tryd.pinned (.plain (OpenSpec.ofChange treeRunsSpec)) treeRunsCard

/-- THE TIED CARD OF 'warrenlaw12.TreeStays'. -/
def treeStaysCard : Claim7 := { stood := { row := treeStaysRow, standIns := [], harness := (true, "7a860a35fa9e1a210dee5afdf9d81b8c9fc6c6e13e8f3dcdd4426fe276b6b8ca"), looks := true }, kinds := [], alts := [], laidByText := true, laidKinds := [.handle], laidTests := true, laidLooks := .later }
def TreeStaysCardSaid : Prop := Claim7.holds Tryd.pinned (.plain (OpenSpec.ofChange treeStaysSpec)) treeStaysCard

/-- THE TIED CARD OF 'warrenlaw12.TreeOrders'. -/
def treeOrdersCard : Claim7 := { stood := { row := treeOrdersRow, standIns := [], harness := (true, "7a860a35fa9e1a210dee5afdf9d81b8c9fc6c6e13e8f3dcdd4426fe276b6b8ca"), looks := true }, kinds := [], alts := [], laidByText := true, laidKinds := [.handle], laidTests := true, laidLooks := .later }
def TreeOrdersCardSaid : Prop := Claim7.holds Tryd.pinned (.plain (OpenSpec.ofChange treeOrdersSpec)) treeOrdersCard

/-- THE TIED CARD OF 'warrenlaw12.TreeOf'. -/
def treeOfCard : Claim7 := { stood := { row := treeOfRow, standIns := [], harness := (true, "7a860a35fa9e1a210dee5afdf9d81b8c9fc6c6e13e8f3dcdd4426fe276b6b8ca"), looks := true }, kinds := [], alts := [], laidByText := true, laidKinds := [.handle], laidTests := true, laidLooks := .later }
def TreeOfCardSaid : Prop := Claim7.holds Tryd.pinned (.plain (OpenSpec.ofChange treeOfSpec)) treeOfCard

/-- THE SECOND FORM's CARD OF 'warrenlaw08.LeafForms'. -/
def leafFormsUptoCard : Claim7 := { stood := { row := leafFormsUptoRow, standIns := [], harness := (true, "7a860a35fa9e1a210dee5afdf9d81b8c9fc6c6e13e8f3dcdd4426fe276b6b8ca"), looks := true }, kinds := [], alts := [], laidByText := true, laidKinds := [.handle], laidTests := true, laidLooks := .later }
def LeafFormsUptoCardSaid : Prop := Claim7.holds Tryd.pinned (.plain (OpenSpec.upto leafFormsSpec)) leafFormsUptoCard

/-- THE SECOND FORM's CARD OF 'warrenlaw08.LeafBack'. -/
def leafBackUptoCard : Claim7 := { stood := { row := leafBackUptoRow, standIns := [], harness := (true, "7a860a35fa9e1a210dee5afdf9d81b8c9fc6c6e13e8f3dcdd4426fe276b6b8ca"), looks := true }, kinds := [], alts := [], laidByText := true, laidKinds := [.handle], laidTests := true, laidLooks := .later }
def LeafBackUptoCardSaid : Prop := Claim7.holds Tryd.pinned (.plain (OpenSpec.upto leafBackSpec)) leafBackUptoCard

/-- THE SECOND FORM's CARD OF 'warrenlaw08.LeafGrows'. -/
def leafGrowsUptoCard : Claim7 := { stood := { row := leafGrowsUptoRow, standIns := [], harness := (true, "7a860a35fa9e1a210dee5afdf9d81b8c9fc6c6e13e8f3dcdd4426fe276b6b8ca"), looks := true }, kinds := [], alts := [], laidByText := true, laidKinds := [.handle], laidTests := true, laidLooks := .later }
def LeafGrowsUptoCardSaid : Prop := Claim7.holds Tryd.pinned (.plain (OpenSpec.upto leafGrowsSpec)) leafGrowsUptoCard

/-- THE SECOND FORM's CARD OF 'warrenlaw12.TreeRuns'. -/
def treeRunsUptoCard : Claim7 := { stood := { row := treeRunsUptoRow, standIns := [], harness := (true, "7a860a35fa9e1a210dee5afdf9d81b8c9fc6c6e13e8f3dcdd4426fe276b6b8ca"), looks := true }, kinds := [], alts := [], laidByText := true, laidKinds := [.handle], laidTests := true, laidLooks := .later }
def TreeRunsUptoCardSaid : Prop := Claim7.holds Tryd.pinned (.plain (OpenSpec.upto treeRunsSpec)) treeRunsUptoCard

/-- THE SECOND FORM's CARD OF 'warrenlaw12.TreeStays'. -/
def treeStaysUptoCard : Claim7 := { stood := { row := treeStaysUptoRow, standIns := [], harness := (true, "7a860a35fa9e1a210dee5afdf9d81b8c9fc6c6e13e8f3dcdd4426fe276b6b8ca"), looks := true }, kinds := [], alts := [], laidByText := true, laidKinds := [.handle], laidTests := true, laidLooks := .later }
def TreeStaysUptoCardSaid : Prop := Claim7.holds Tryd.pinned (.plain (OpenSpec.upto treeStaysSpec)) treeStaysUptoCard

/-- THE SECOND FORM's CARD OF 'warrenlaw12.TreeOrders'. -/
def treeOrdersUptoCard : Claim7 := { stood := { row := treeOrdersUptoRow, standIns := [], harness := (true, "7a860a35fa9e1a210dee5afdf9d81b8c9fc6c6e13e8f3dcdd4426fe276b6b8ca"), looks := true }, kinds := [], alts := [], laidByText := true, laidKinds := [.handle], laidTests := true, laidLooks := .later }
def TreeOrdersUptoCardSaid : Prop := Claim7.holds Tryd.pinned (.plain (OpenSpec.upto treeOrdersSpec)) treeOrdersUptoCard

/-- THE SECOND FORM's CARD OF 'warrenlaw12.TreeOf'. -/
def treeOfUptoCard : Claim7 := { stood := { row := treeOfUptoRow, standIns := [], harness := (true, "7a860a35fa9e1a210dee5afdf9d81b8c9fc6c6e13e8f3dcdd4426fe276b6b8ca"), looks := true }, kinds := [], alts := [], laidByText := true, laidKinds := [.handle], laidTests := true, laidLooks := .later }
def TreeOfUptoCardSaid : Prop := Claim7.holds Tryd.pinned (.plain (OpenSpec.upto treeOfSpec)) treeOfUptoCard
end Rows
end Go.Proofs.YtfkhijjabkhmmaaDoor
