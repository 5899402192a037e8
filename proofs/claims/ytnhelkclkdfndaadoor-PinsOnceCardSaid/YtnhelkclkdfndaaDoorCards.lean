/-
  DERIVED. GIVEN WITH THE SEED: THE CARDS: each row of YtnhelkclkdfndaaDoorRows.lean that lists a variable, with what it lists TIED to the program's text (the seventh form; the later family's looks); each row that meets fmt, with fmt's text TOLD by the authors' own Lean function (tested against real Go, not proved from fmt's source: count such statements apart). THE CARD IS WHAT COUNTS. Prove the row's statement (the work); the ties are given (YtnhelkclkdfndaaDoorTie.lean); close each card by the builder's one call (the guide's Derived/Test/ToyasCard.lean, 'card_holds'). Laid BY PROGRAM, IN A SANDBOX (cutbox-door.mjs). By AI agents, Wed Nov 11 2026. No macro, syntax, notation, axiom, sorry.
-/
import Derived.Test.YtnhelkclkdfndaaDoorRows
import GoSem.ClaimSeven
namespace Go.Proofs.YtnhelkclkdfndaaDoor
namespace Rows

/-- THE TIED CARD OF 'warrenlaw18.PinsTells'. -/
def pinsTellsCard : Claim7 := { stood := { row := pinsTellsRow, standIns := [], harness := (true, "8bb5097b303d6c3a2842dd2ab64e8632c086bc3aebd8bb5a4236d51bf2f598ac"), looks := true }, kinds := [], alts := [], laidByText := true, laidKinds := [.handle], laidTests := true, laidLooks := .later }
def PinsTellsCardSaid : Prop := Claim7.holds Tryd.pinned (.plain (OpenSpec.ofChange pinsTellsSpec)) pinsTellsCard

/-- THE TIED CARD OF 'warrenlaw18.PinsHold'. -/
def pinsHoldCard : Claim7 := { stood := { row := pinsHoldRow, standIns := [], harness := (true, "8bb5097b303d6c3a2842dd2ab64e8632c086bc3aebd8bb5a4236d51bf2f598ac"), looks := true }, kinds := [], alts := [], laidByText := true, laidKinds := [.handle], laidTests := true, laidLooks := .later }
def PinsHoldCardSaid : Prop := Claim7.holds Tryd.pinned (.plain (OpenSpec.ofChange pinsHoldSpec)) pinsHoldCard

/-- THE TIED CARD OF 'warrenlaw18.PinsOnce'. -/
def pinsOnceCard : Claim7 := { stood := { row := pinsOnceRow, standIns := [], harness := (true, "8bb5097b303d6c3a2842dd2ab64e8632c086bc3aebd8bb5a4236d51bf2f598ac"), looks := true }, kinds := [], alts := [], laidByText := true, laidKinds := [.handle], laidTests := true, laidLooks := .later }
def PinsOnceCardSaid : Prop := Claim7.holds Tryd.pinned (.plain (OpenSpec.ofChange pinsOnceSpec)) pinsOnceCard

/-- THE TIED CARD OF 'warrenlaw19.HeadForms'. -/
def headFormsCard : Claim7 := { stood := { row := headFormsRow, standIns := [], harness := (true, "8bb5097b303d6c3a2842dd2ab64e8632c086bc3aebd8bb5a4236d51bf2f598ac"), looks := true }, kinds := [], alts := [], laidByText := true, laidKinds := [.handle], laidTests := true, laidLooks := .later }
def HeadFormsCardSaid : Prop := Claim7.holds Tryd.pinned (.plain (OpenSpec.ofChange headFormsSpec)) headFormsCard

/-- THE TIED CARD OF 'warrenlaw19.HeadNewest'. -/
def headNewestCard : Claim7 := { stood := { row := headNewestRow, standIns := [], harness := (true, "8bb5097b303d6c3a2842dd2ab64e8632c086bc3aebd8bb5a4236d51bf2f598ac"), looks := true }, kinds := [], alts := [], laidByText := true, laidKinds := [.handle], laidTests := true, laidLooks := .later }
def HeadNewestCardSaid : Prop := Claim7.holds Tryd.pinned (.plain (OpenSpec.ofChange headNewestSpec)) headNewestCard

/-- THE TIED CARD OF 'warrenlaw19.HeadAlone'. -/
def headAloneCard : Claim7 := { stood := { row := headAloneRow, standIns := [], harness := (true, "8bb5097b303d6c3a2842dd2ab64e8632c086bc3aebd8bb5a4236d51bf2f598ac"), looks := true }, kinds := [], alts := [], laidByText := true, laidKinds := [.handle], laidTests := true, laidLooks := .later }
def HeadAloneCardSaid : Prop := Claim7.holds Tryd.pinned (.plain (OpenSpec.ofChange headAloneSpec)) headAloneCard

/-- THE TIED CARD OF 'warrenlaw29.ForestTells'. -/
def forestTellsCard : Claim7 := { stood := { row := forestTellsRow, standIns := [], harness := (true, "8bb5097b303d6c3a2842dd2ab64e8632c086bc3aebd8bb5a4236d51bf2f598ac"), looks := true }, kinds := [], alts := [], laidByText := true, laidKinds := [.handle], laidTests := true, laidLooks := .later }
def ForestTellsCardSaid : Prop := Claim7.holds Tryd.pinned (.plain (OpenSpec.ofChange forestTellsSpec)) forestTellsCard

/-- THE TIED CARD OF 'warrenlaw29.ForestGiven'. -/
def forestGivenCard : Claim7 := { stood := { row := forestGivenRow, standIns := [], harness := (true, "8bb5097b303d6c3a2842dd2ab64e8632c086bc3aebd8bb5a4236d51bf2f598ac"), looks := true }, kinds := [], alts := [], laidByText := true, laidKinds := [.handle], laidTests := true, laidLooks := .later }
def ForestGivenCardSaid : Prop := Claim7.holds Tryd.pinned (.plain (OpenSpec.ofChange forestGivenSpec)) forestGivenCard

/-- THE TIED CARD OF 'warrenlaw29.ForestCounts'. -/
def forestCountsCard : Claim7 := { stood := { row := forestCountsRow, standIns := [], harness := (true, "8bb5097b303d6c3a2842dd2ab64e8632c086bc3aebd8bb5a4236d51bf2f598ac"), looks := true }, kinds := [], alts := [], laidByText := true, laidKinds := [.handle], laidTests := true, laidLooks := .later }
def ForestCountsCardSaid : Prop := Claim7.holds Tryd.pinned (.plain (OpenSpec.ofChange forestCountsSpec)) forestCountsCard

/-- THE TIED CARD OF 'warrenlaw09.BranchForms'. -/
def branchFormsCard : Claim7 := { stood := { row := branchFormsRow, standIns := [], harness := (true, "8bb5097b303d6c3a2842dd2ab64e8632c086bc3aebd8bb5a4236d51bf2f598ac"), looks := true }, kinds := [], alts := [], laidByText := true, laidKinds := [.handle], laidTests := true, laidLooks := .later }
def BranchFormsCardSaid : Prop := Claim7.holds Tryd.pinned (.plain (OpenSpec.ofChange branchFormsSpec)) branchFormsCard

/-- THE TIED CARD OF 'warrenlaw09.BranchBack'. -/
def branchBackCard : Claim7 := { stood := { row := branchBackRow, standIns := [], harness := (true, "8bb5097b303d6c3a2842dd2ab64e8632c086bc3aebd8bb5a4236d51bf2f598ac"), looks := true }, kinds := [], alts := [], laidByText := true, laidKinds := [.handle], laidTests := true, laidLooks := .later }
def BranchBackCardSaid : Prop := Claim7.holds Tryd.pinned (.plain (OpenSpec.ofChange branchBackSpec)) branchBackCard

/-- THE SECOND FORM's CARD OF 'warrenlaw18.PinsTells'. -/
def pinsTellsUptoCard : Claim7 := { stood := { row := pinsTellsUptoRow, standIns := [], harness := (true, "8bb5097b303d6c3a2842dd2ab64e8632c086bc3aebd8bb5a4236d51bf2f598ac"), looks := true }, kinds := [], alts := [], laidByText := true, laidKinds := [.handle], laidTests := true, laidLooks := .later }
def PinsTellsUptoCardSaid : Prop := Claim7.holds Tryd.pinned (.plain (OpenSpec.upto pinsTellsSpec)) pinsTellsUptoCard

/-- THE SECOND FORM's CARD OF 'warrenlaw18.PinsHold'. -/
def pinsHoldUptoCard : Claim7 := { stood := { row := pinsHoldUptoRow, standIns := [], harness := (true, "8bb5097b303d6c3a2842dd2ab64e8632c086bc3aebd8bb5a4236d51bf2f598ac"), looks := true }, kinds := [], alts := [], laidByText := true, laidKinds := [.handle], laidTests := true, laidLooks := .later }
def PinsHoldUptoCardSaid : Prop := Claim7.holds Tryd.pinned (.plain (OpenSpec.upto pinsHoldSpec)) pinsHoldUptoCard

/-- THE SECOND FORM's CARD OF 'warrenlaw18.PinsOnce'. -/
def pinsOnceUptoCard : Claim7 := { stood := { row := pinsOnceUptoRow, standIns := [], harness := (true, "8bb5097b303d6c3a2842dd2ab64e8632c086bc3aebd8bb5a4236d51bf2f598ac"), looks := true }, kinds := [], alts := [], laidByText := true, laidKinds := [.handle], laidTests := true, laidLooks := .later }
def PinsOnceUptoCardSaid : Prop := Claim7.holds Tryd.pinned (.plain (OpenSpec.upto pinsOnceSpec)) pinsOnceUptoCard

/-- THE SECOND FORM's CARD OF 'warrenlaw19.HeadForms'. -/
def headFormsUptoCard : Claim7 := { stood := { row := headFormsUptoRow, standIns := [], harness := (true, "8bb5097b303d6c3a2842dd2ab64e8632c086bc3aebd8bb5a4236d51bf2f598ac"), looks := true }, kinds := [], alts := [], laidByText := true, laidKinds := [.handle], laidTests := true, laidLooks := .later }
def HeadFormsUptoCardSaid : Prop := Claim7.holds Tryd.pinned (.plain (OpenSpec.upto headFormsSpec)) headFormsUptoCard

/-- THE SECOND FORM's CARD OF 'warrenlaw19.HeadNewest'. -/
def headNewestUptoCard : Claim7 := { stood := { row := headNewestUptoRow, standIns := [], harness := (true, "8bb5097b303d6c3a2842dd2ab64e8632c086bc3aebd8bb5a4236d51bf2f598ac"), looks := true }, kinds := [], alts := [], laidByText := true, laidKinds := [.handle], laidTests := true, laidLooks := .later }
def HeadNewestUptoCardSaid : Prop := Claim7.holds Tryd.pinned (.plain (OpenSpec.upto headNewestSpec)) headNewestUptoCard

/-- THE SECOND FORM's CARD OF 'warrenlaw19.HeadAlone'. -/
def headAloneUptoCard : Claim7 := { stood := { row := headAloneUptoRow, standIns := [], harness := (true, "8bb5097b303d6c3a2842dd2ab64e8632c086bc3aebd8bb5a4236d51bf2f598ac"), looks := true }, kinds := [], alts := [], laidByText := true, laidKinds := [.handle], laidTests := true, laidLooks := .later }
def HeadAloneUptoCardSaid : Prop := Claim7.holds Tryd.pinned (.plain (OpenSpec.upto headAloneSpec)) headAloneUptoCard

/-- THE SECOND FORM's CARD OF 'warrenlaw29.ForestTells'. -/
def forestTellsUptoCard : Claim7 := { stood := { row := forestTellsUptoRow, standIns := [], harness := (true, "8bb5097b303d6c3a2842dd2ab64e8632c086bc3aebd8bb5a4236d51bf2f598ac"), looks := true }, kinds := [], alts := [], laidByText := true, laidKinds := [.handle], laidTests := true, laidLooks := .later }
def ForestTellsUptoCardSaid : Prop := Claim7.holds Tryd.pinned (.plain (OpenSpec.upto forestTellsSpec)) forestTellsUptoCard

/-- THE SECOND FORM's CARD OF 'warrenlaw29.ForestGiven'. -/
def forestGivenUptoCard : Claim7 := { stood := { row := forestGivenUptoRow, standIns := [], harness := (true, "8bb5097b303d6c3a2842dd2ab64e8632c086bc3aebd8bb5a4236d51bf2f598ac"), looks := true }, kinds := [], alts := [], laidByText := true, laidKinds := [.handle], laidTests := true, laidLooks := .later }
def ForestGivenUptoCardSaid : Prop := Claim7.holds Tryd.pinned (.plain (OpenSpec.upto forestGivenSpec)) forestGivenUptoCard

/-- THE SECOND FORM's CARD OF 'warrenlaw29.ForestCounts'. -/
def forestCountsUptoCard : Claim7 := { stood := { row := forestCountsUptoRow, standIns := [], harness := (true, "8bb5097b303d6c3a2842dd2ab64e8632c086bc3aebd8bb5a4236d51bf2f598ac"), looks := true }, kinds := [], alts := [], laidByText := true, laidKinds := [.handle], laidTests := true, laidLooks := .later }
def ForestCountsUptoCardSaid : Prop := Claim7.holds Tryd.pinned (.plain (OpenSpec.upto forestCountsSpec)) forestCountsUptoCard

/-- THE SECOND FORM's CARD OF 'warrenlaw09.BranchForms'. -/
def branchFormsUptoCard : Claim7 := { stood := { row := branchFormsUptoRow, standIns := [], harness := (true, "8bb5097b303d6c3a2842dd2ab64e8632c086bc3aebd8bb5a4236d51bf2f598ac"), looks := true }, kinds := [], alts := [], laidByText := true, laidKinds := [.handle], laidTests := true, laidLooks := .later }
def BranchFormsUptoCardSaid : Prop := Claim7.holds Tryd.pinned (.plain (OpenSpec.upto branchFormsSpec)) branchFormsUptoCard

/-- THE SECOND FORM's CARD OF 'warrenlaw09.BranchBack'. -/
def branchBackUptoCard : Claim7 := { stood := { row := branchBackUptoRow, standIns := [], harness := (true, "8bb5097b303d6c3a2842dd2ab64e8632c086bc3aebd8bb5a4236d51bf2f598ac"), looks := true }, kinds := [], alts := [], laidByText := true, laidKinds := [.handle], laidTests := true, laidLooks := .later }
def BranchBackUptoCardSaid : Prop := Claim7.holds Tryd.pinned (.plain (OpenSpec.upto branchBackSpec)) branchBackUptoCard
end Rows
end Go.Proofs.YtnhelkclkdfndaaDoor
