/-
  DERIVED. GIVEN WITH THE SEED: THE CARDS: each row of YtdmlojinmkcldaaDoorRows.lean that lists a variable, with what it lists TIED to the program's text (the seventh form; the later family's looks); each row that meets fmt, with fmt's text TOLD by the authors' own Lean function (tested against real Go, not proved from fmt's source: count such statements apart). THE CARD IS WHAT COUNTS. Prove the row's statement (the work); the ties are given (YtdmlojinmkcldaaDoorTie.lean); close each card by the builder's one call (the guide's Derived/Test/ToyasCard.lean, 'card_holds'). Laid BY PROGRAM, IN A SANDBOX (cutbox-door.mjs). By AI agents, Wed Nov 11 2026. No macro, syntax, notation, axiom, sorry.
-/
import Derived.Test.YtdmlojinmkcldaaDoorRows
import GoSem.ClaimSeven
namespace Go.Proofs.YtdmlojinmkcldaaDoor
namespace Rows

/-- THE TIED CARD OF 'warrenlaw11.FillSplits'. -/
def fillSplitsCard : Claim7 := { stood := { row := fillSplitsRow, standIns := [], harness := (true, "6070dc67e626659e217730d5c24db3154a46060097918ee8ac79b56f1a8b24a1"), looks := true }, kinds := [], alts := [], laidByText := true, laidKinds := [.handle], laidTests := true, laidLooks := .later }
def FillSplitsCardSaid : Prop := Claim7.holds Tryd.pinned (.plain (OpenSpec.ofChange fillSplitsSpec)) fillSplitsCard

/-- THE TIED CARD OF 'warrenlaw11.FillHalves'. -/
def fillHalvesCard : Claim7 := { stood := { row := fillHalvesRow, standIns := [], harness := (true, "6070dc67e626659e217730d5c24db3154a46060097918ee8ac79b56f1a8b24a1"), looks := true }, kinds := [], alts := [], laidByText := true, laidKinds := [.handle], laidTests := true, laidLooks := .later }
def FillHalvesCardSaid : Prop := Claim7.holds Tryd.pinned (.plain (OpenSpec.ofChange fillHalvesSpec)) fillHalvesCard

/-- THE TIED CARD OF 'warrenlaw07.KeysSpans'. -/
def keysSpansCard : Claim7 := { stood := { row := keysSpansRow, standIns := [], harness := (true, "6070dc67e626659e217730d5c24db3154a46060097918ee8ac79b56f1a8b24a1"), looks := true }, kinds := [], alts := [], laidByText := true, laidKinds := [.handle], laidTests := true, laidLooks := .later }
def KeysSpansCardSaid : Prop := Claim7.holds Tryd.pinned (.plain (OpenSpec.ofChange keysSpansSpec)) keysSpansCard

/-- THE TIED CARD OF 'warrenlaw07.KeysMeets'. -/
def keysMeetsCard : Claim7 := { stood := { row := keysMeetsRow, standIns := [], harness := (true, "6070dc67e626659e217730d5c24db3154a46060097918ee8ac79b56f1a8b24a1"), looks := true }, kinds := [], alts := [], laidByText := true, laidKinds := [.handle], laidTests := true, laidLooks := .later }
def KeysMeetsCardSaid : Prop := Claim7.holds Tryd.pinned (.plain (OpenSpec.ofChange keysMeetsSpec)) keysMeetsCard

/-- THE TIED CARD OF 'warrenlaw07.KeysInside'. -/
def keysInsideCard : Claim7 := { stood := { row := keysInsideRow, standIns := [], harness := (true, "6070dc67e626659e217730d5c24db3154a46060097918ee8ac79b56f1a8b24a1"), looks := true }, kinds := [], alts := [], laidByText := true, laidKinds := [.handle], laidTests := true, laidLooks := .later }
def KeysInsideCardSaid : Prop := Claim7.holds Tryd.pinned (.plain (OpenSpec.ofChange keysInsideSpec)) keysInsideCard

/-- THE TIED CARD OF 'warrenlaw02.CrcSums'. -/
def crcSumsCard : Claim7 := { stood := { row := crcSumsRow, standIns := [], harness := (true, "6070dc67e626659e217730d5c24db3154a46060097918ee8ac79b56f1a8b24a1"), looks := true }, kinds := [], alts := [], laidByText := true, laidKinds := [.handle], laidTests := true, laidLooks := .later }
def CrcSumsCardSaid : Prop := Claim7.holds Tryd.pinned (.plain (OpenSpec.ofChange crcSumsSpec)) crcSumsCard

/-- THE TIED CARD OF 'warrenlaw02.CrcFinds'. -/
def crcFindsCard : Claim7 := { stood := { row := crcFindsRow, standIns := [], harness := (true, "6070dc67e626659e217730d5c24db3154a46060097918ee8ac79b56f1a8b24a1"), looks := true }, kinds := [], alts := [], laidByText := true, laidKinds := [.handle], laidTests := true, laidLooks := .later }
def CrcFindsCardSaid : Prop := Claim7.holds Tryd.pinned (.plain (OpenSpec.ofChange crcFindsSpec)) crcFindsCard

/-- THE TIED CARD OF 'warrenlaw02.CrcMixes'. -/
def crcMixesCard : Claim7 := { stood := { row := crcMixesRow, standIns := [], harness := (true, "6070dc67e626659e217730d5c24db3154a46060097918ee8ac79b56f1a8b24a1"), looks := true }, kinds := [], alts := [], laidByText := true, laidKinds := [.handle], laidTests := true, laidLooks := .later }
def CrcMixesCardSaid : Prop := Claim7.holds Tryd.pinned (.plain (OpenSpec.ofChange crcMixesSpec)) crcMixesCard

/-- THE TIED CARD OF 'warrenlaw03.VarintBytes'. -/
def varintBytesCard : Claim7 := { stood := { row := varintBytesRow, standIns := [], harness := (true, "6070dc67e626659e217730d5c24db3154a46060097918ee8ac79b56f1a8b24a1"), looks := true }, kinds := [], alts := [], laidByText := true, laidKinds := [.handle], laidTests := true, laidLooks := .later }
def VarintBytesCardSaid : Prop := Claim7.holds Tryd.pinned (.plain (OpenSpec.ofChange varintBytesSpec)) varintBytesCard

/-- THE TIED CARD OF 'warrenlaw03.VarintBack'. -/
def varintBackCard : Claim7 := { stood := { row := varintBackRow, standIns := [], harness := (true, "6070dc67e626659e217730d5c24db3154a46060097918ee8ac79b56f1a8b24a1"), looks := true }, kinds := [], alts := [], laidByText := true, laidKinds := [.handle], laidTests := true, laidLooks := .later }
def VarintBackCardSaid : Prop := Claim7.holds Tryd.pinned (.plain (OpenSpec.ofChange varintBackSpec)) varintBackCard

/-- THE TIED CARD OF 'warrenlaw03.VarintApart'. -/
def varintApartCard : Claim7 := { stood := { row := varintApartRow, standIns := [], harness := (true, "6070dc67e626659e217730d5c24db3154a46060097918ee8ac79b56f1a8b24a1"), looks := true }, kinds := [], alts := [], laidByText := true, laidKinds := [.handle], laidTests := true, laidLooks := .later }
def VarintApartCardSaid : Prop := Claim7.holds Tryd.pinned (.plain (OpenSpec.ofChange varintApartSpec)) varintApartCard

/-- THE SECOND FORM's CARD OF 'warrenlaw11.FillSplits'. -/
def fillSplitsUptoCard : Claim7 := { stood := { row := fillSplitsUptoRow, standIns := [], harness := (true, "6070dc67e626659e217730d5c24db3154a46060097918ee8ac79b56f1a8b24a1"), looks := true }, kinds := [], alts := [], laidByText := true, laidKinds := [.handle], laidTests := true, laidLooks := .later }
def FillSplitsUptoCardSaid : Prop := Claim7.holds Tryd.pinned (.plain (OpenSpec.upto fillSplitsSpec)) fillSplitsUptoCard

/-- THE SECOND FORM's CARD OF 'warrenlaw11.FillHalves'. -/
def fillHalvesUptoCard : Claim7 := { stood := { row := fillHalvesUptoRow, standIns := [], harness := (true, "6070dc67e626659e217730d5c24db3154a46060097918ee8ac79b56f1a8b24a1"), looks := true }, kinds := [], alts := [], laidByText := true, laidKinds := [.handle], laidTests := true, laidLooks := .later }
def FillHalvesUptoCardSaid : Prop := Claim7.holds Tryd.pinned (.plain (OpenSpec.upto fillHalvesSpec)) fillHalvesUptoCard

/-- THE SECOND FORM's CARD OF 'warrenlaw07.KeysSpans'. -/
def keysSpansUptoCard : Claim7 := { stood := { row := keysSpansUptoRow, standIns := [], harness := (true, "6070dc67e626659e217730d5c24db3154a46060097918ee8ac79b56f1a8b24a1"), looks := true }, kinds := [], alts := [], laidByText := true, laidKinds := [.handle], laidTests := true, laidLooks := .later }
def KeysSpansUptoCardSaid : Prop := Claim7.holds Tryd.pinned (.plain (OpenSpec.upto keysSpansSpec)) keysSpansUptoCard

/-- THE SECOND FORM's CARD OF 'warrenlaw07.KeysMeets'. -/
def keysMeetsUptoCard : Claim7 := { stood := { row := keysMeetsUptoRow, standIns := [], harness := (true, "6070dc67e626659e217730d5c24db3154a46060097918ee8ac79b56f1a8b24a1"), looks := true }, kinds := [], alts := [], laidByText := true, laidKinds := [.handle], laidTests := true, laidLooks := .later }
def KeysMeetsUptoCardSaid : Prop := Claim7.holds Tryd.pinned (.plain (OpenSpec.upto keysMeetsSpec)) keysMeetsUptoCard

/-- THE SECOND FORM's CARD OF 'warrenlaw07.KeysInside'. -/
def keysInsideUptoCard : Claim7 := { stood := { row := keysInsideUptoRow, standIns := [], harness := (true, "6070dc67e626659e217730d5c24db3154a46060097918ee8ac79b56f1a8b24a1"), looks := true }, kinds := [], alts := [], laidByText := true, laidKinds := [.handle], laidTests := true, laidLooks := .later }
def KeysInsideUptoCardSaid : Prop := Claim7.holds Tryd.pinned (.plain (OpenSpec.upto keysInsideSpec)) keysInsideUptoCard

/-- THE SECOND FORM's CARD OF 'warrenlaw02.CrcSums'. -/
def crcSumsUptoCard : Claim7 := { stood := { row := crcSumsUptoRow, standIns := [], harness := (true, "6070dc67e626659e217730d5c24db3154a46060097918ee8ac79b56f1a8b24a1"), looks := true }, kinds := [], alts := [], laidByText := true, laidKinds := [.handle], laidTests := true, laidLooks := .later }
def CrcSumsUptoCardSaid : Prop := Claim7.holds Tryd.pinned (.plain (OpenSpec.upto crcSumsSpec)) crcSumsUptoCard

/-- THE SECOND FORM's CARD OF 'warrenlaw02.CrcFinds'. -/
def crcFindsUptoCard : Claim7 := { stood := { row := crcFindsUptoRow, standIns := [], harness := (true, "6070dc67e626659e217730d5c24db3154a46060097918ee8ac79b56f1a8b24a1"), looks := true }, kinds := [], alts := [], laidByText := true, laidKinds := [.handle], laidTests := true, laidLooks := .later }
def CrcFindsUptoCardSaid : Prop := Claim7.holds Tryd.pinned (.plain (OpenSpec.upto crcFindsSpec)) crcFindsUptoCard

/-- THE SECOND FORM's CARD OF 'warrenlaw02.CrcMixes'. -/
def crcMixesUptoCard : Claim7 := { stood := { row := crcMixesUptoRow, standIns := [], harness := (true, "6070dc67e626659e217730d5c24db3154a46060097918ee8ac79b56f1a8b24a1"), looks := true }, kinds := [], alts := [], laidByText := true, laidKinds := [.handle], laidTests := true, laidLooks := .later }
def CrcMixesUptoCardSaid : Prop := Claim7.holds Tryd.pinned (.plain (OpenSpec.upto crcMixesSpec)) crcMixesUptoCard

/-- THE SECOND FORM's CARD OF 'warrenlaw03.VarintBytes'. -/
def varintBytesUptoCard : Claim7 := { stood := { row := varintBytesUptoRow, standIns := [], harness := (true, "6070dc67e626659e217730d5c24db3154a46060097918ee8ac79b56f1a8b24a1"), looks := true }, kinds := [], alts := [], laidByText := true, laidKinds := [.handle], laidTests := true, laidLooks := .later }
def VarintBytesUptoCardSaid : Prop := Claim7.holds Tryd.pinned (.plain (OpenSpec.upto varintBytesSpec)) varintBytesUptoCard

/-- THE SECOND FORM's CARD OF 'warrenlaw03.VarintBack'. -/
def varintBackUptoCard : Claim7 := { stood := { row := varintBackUptoRow, standIns := [], harness := (true, "6070dc67e626659e217730d5c24db3154a46060097918ee8ac79b56f1a8b24a1"), looks := true }, kinds := [], alts := [], laidByText := true, laidKinds := [.handle], laidTests := true, laidLooks := .later }
def VarintBackUptoCardSaid : Prop := Claim7.holds Tryd.pinned (.plain (OpenSpec.upto varintBackSpec)) varintBackUptoCard

/-- THE SECOND FORM's CARD OF 'warrenlaw03.VarintApart'. -/
def varintApartUptoCard : Claim7 := { stood := { row := varintApartUptoRow, standIns := [], harness := (true, "6070dc67e626659e217730d5c24db3154a46060097918ee8ac79b56f1a8b24a1"), looks := true }, kinds := [], alts := [], laidByText := true, laidKinds := [.handle], laidTests := true, laidLooks := .later }
def VarintApartUptoCardSaid : Prop := Claim7.holds Tryd.pinned (.plain (OpenSpec.upto varintApartSpec)) varintApartUptoCard
end Rows
end Go.Proofs.YtdmlojinmkcldaaDoor
