/-
  DERIVED. GIVEN WITH THE SEED: THE CARDS: each row of YtploddijjofphaaDoorRows.lean that lists a variable, with what it lists TIED to the program's text (the seventh form; the later family's looks); each row that meets fmt, with fmt's text TOLD by the authors' own Lean function (tested against real Go, not proved from fmt's source: count such statements apart). THE CARD IS WHAT COUNTS. Prove the row's statement (the work); the ties are given (YtploddijjofphaaDoorTie.lean); close each card by the builder's one call (the guide's Derived/Test/ToyasCard.lean, 'card_holds'). Laid BY PROGRAM, IN A SANDBOX (cutbox-door.mjs). By AI agents, Wed Nov 11 2026. No macro, syntax, notation, axiom, sorry.
-/
import Derived.Test.YtploddijjofphaaDoorRows
import GoSem.ClaimSeven
namespace Go.Proofs.YtploddijjofphaaDoor
namespace Rows

/-- THE TIED CARD OF 'warrenlaw27.ScopeTells'. -/
def scopeTellsCard : Claim7 := { stood := { row := scopeTellsRow, standIns := [], harness := (true, "78950bc944f34041cfa74d13d5b37e17d4db36ca74ccea5d5cd4230b298de77d"), looks := true }, kinds := [], alts := [], laidByText := true, laidKinds := [.handle], laidTests := true, laidLooks := .later }
def ScopeTellsCardSaid : Prop := Claim7.holds Tryd.pinned (.plain (OpenSpec.ofChange scopeTellsSpec)) scopeTellsCard

/-- THE TIED CARD OF 'warrenlaw27.ScopeNarrows'. -/
def scopeNarrowsCard : Claim7 := { stood := { row := scopeNarrowsRow, standIns := [], harness := (true, "78950bc944f34041cfa74d13d5b37e17d4db36ca74ccea5d5cd4230b298de77d"), looks := true }, kinds := [], alts := [], laidByText := true, laidKinds := [.handle], laidTests := true, laidLooks := .later }
def ScopeNarrowsCardSaid : Prop := Claim7.holds Tryd.pinned (.plain (OpenSpec.ofChange scopeNarrowsSpec)) scopeNarrowsCard

/-- THE TIED CARD OF 'warrenlaw01.IntsBits'. -/
def intsBitsCard : Claim7 := { stood := { row := intsBitsRow, standIns := [], harness := (true, "78950bc944f34041cfa74d13d5b37e17d4db36ca74ccea5d5cd4230b298de77d"), looks := true }, kinds := [], alts := [], laidByText := true, laidKinds := [.handle], laidTests := true, laidLooks := .later }
def IntsBitsCardSaid : Prop := Claim7.holds Tryd.pinned (.plain (OpenSpec.ofChange intsBitsSpec)) intsBitsCard

/-- THE TIED CARD OF 'warrenlaw01.IntsBack'. -/
def intsBackCard : Claim7 := { stood := { row := intsBackRow, standIns := [], harness := (true, "78950bc944f34041cfa74d13d5b37e17d4db36ca74ccea5d5cd4230b298de77d"), looks := true }, kinds := [], alts := [], laidByText := true, laidKinds := [.handle], laidTests := true, laidLooks := .later }
def IntsBackCardSaid : Prop := Claim7.holds Tryd.pinned (.plain (OpenSpec.ofChange intsBackSpec)) intsBackCard

/-- THE TIED CARD OF 'warrenlaw10.ChainForms'. -/
def chainFormsCard : Claim7 := { stood := { row := chainFormsRow, standIns := [], harness := (true, "78950bc944f34041cfa74d13d5b37e17d4db36ca74ccea5d5cd4230b298de77d"), looks := true }, kinds := [], alts := [], laidByText := true, laidKinds := [.handle], laidTests := true, laidLooks := .later }
def ChainFormsCardSaid : Prop := Claim7.holds Tryd.pinned (.plain (OpenSpec.ofChange chainFormsSpec)) chainFormsCard

/-- THE TIED CARD OF 'warrenlaw10.ChainBack'. -/
def chainBackCard : Claim7 := { stood := { row := chainBackRow, standIns := [], harness := (true, "78950bc944f34041cfa74d13d5b37e17d4db36ca74ccea5d5cd4230b298de77d"), looks := true }, kinds := [], alts := [], laidByText := true, laidKinds := [.handle], laidTests := true, laidLooks := .later }
def ChainBackCardSaid : Prop := Claim7.holds Tryd.pinned (.plain (OpenSpec.ofChange chainBackSpec)) chainBackCard

/-- THE TIED CARD OF 'warrenlaw10.ChainParts'. -/
def chainPartsCard : Claim7 := { stood := { row := chainPartsRow, standIns := [], harness := (true, "78950bc944f34041cfa74d13d5b37e17d4db36ca74ccea5d5cd4230b298de77d"), looks := true }, kinds := [], alts := [], laidByText := true, laidKinds := [.handle], laidTests := true, laidLooks := .later }
def ChainPartsCardSaid : Prop := Claim7.holds Tryd.pinned (.plain (OpenSpec.ofChange chainPartsSpec)) chainPartsCard

/-- THE TIED CARD OF 'warrenlaw27.ScopeReaches'. -/
def scopeReachesCard : Claim7 := { stood := { row := scopeReachesRow, standIns := [], harness := (true, "78950bc944f34041cfa74d13d5b37e17d4db36ca74ccea5d5cd4230b298de77d"), looks := true }, kinds := [], alts := [], laidByText := true, laidKinds := [.handle], laidTests := true, laidLooks := .later }
def ScopeReachesCardSaid : Prop := Claim7.holds Tryd.pinned (.plain (OpenSpec.ofChange scopeReachesSpec)) scopeReachesCard

/-- THE TIED CARD OF 'warrenlaw01.IntsBytes'. -/
def intsBytesCard : Claim7 := { stood := { row := intsBytesRow, standIns := [], harness := (true, "78950bc944f34041cfa74d13d5b37e17d4db36ca74ccea5d5cd4230b298de77d"), looks := true }, kinds := [], alts := [], laidByText := true, laidKinds := [.handle], laidTests := true, laidLooks := .later }
def IntsBytesCardSaid : Prop := Claim7.holds Tryd.pinned (.plain (OpenSpec.ofChange intsBytesSpec)) intsBytesCard

/-- THE TIED CARD OF 'warrenlaw01.IntsJoins'. -/
def intsJoinsCard : Claim7 := { stood := { row := intsJoinsRow, standIns := [], harness := (true, "78950bc944f34041cfa74d13d5b37e17d4db36ca74ccea5d5cd4230b298de77d"), looks := true }, kinds := [], alts := [], laidByText := true, laidKinds := [.handle], laidTests := true, laidLooks := .later }
def IntsJoinsCardSaid : Prop := Claim7.holds Tryd.pinned (.plain (OpenSpec.ofChange intsJoinsSpec)) intsJoinsCard

/-- THE SECOND FORM's CARD OF 'warrenlaw27.ScopeTells'. -/
def scopeTellsUptoCard : Claim7 := { stood := { row := scopeTellsUptoRow, standIns := [], harness := (true, "78950bc944f34041cfa74d13d5b37e17d4db36ca74ccea5d5cd4230b298de77d"), looks := true }, kinds := [], alts := [], laidByText := true, laidKinds := [.handle], laidTests := true, laidLooks := .later }
def ScopeTellsUptoCardSaid : Prop := Claim7.holds Tryd.pinned (.plain (OpenSpec.upto scopeTellsSpec)) scopeTellsUptoCard

/-- THE SECOND FORM's CARD OF 'warrenlaw27.ScopeNarrows'. -/
def scopeNarrowsUptoCard : Claim7 := { stood := { row := scopeNarrowsUptoRow, standIns := [], harness := (true, "78950bc944f34041cfa74d13d5b37e17d4db36ca74ccea5d5cd4230b298de77d"), looks := true }, kinds := [], alts := [], laidByText := true, laidKinds := [.handle], laidTests := true, laidLooks := .later }
def ScopeNarrowsUptoCardSaid : Prop := Claim7.holds Tryd.pinned (.plain (OpenSpec.upto scopeNarrowsSpec)) scopeNarrowsUptoCard

/-- THE SECOND FORM's CARD OF 'warrenlaw01.IntsBits'. -/
def intsBitsUptoCard : Claim7 := { stood := { row := intsBitsUptoRow, standIns := [], harness := (true, "78950bc944f34041cfa74d13d5b37e17d4db36ca74ccea5d5cd4230b298de77d"), looks := true }, kinds := [], alts := [], laidByText := true, laidKinds := [.handle], laidTests := true, laidLooks := .later }
def IntsBitsUptoCardSaid : Prop := Claim7.holds Tryd.pinned (.plain (OpenSpec.upto intsBitsSpec)) intsBitsUptoCard

/-- THE SECOND FORM's CARD OF 'warrenlaw01.IntsBack'. -/
def intsBackUptoCard : Claim7 := { stood := { row := intsBackUptoRow, standIns := [], harness := (true, "78950bc944f34041cfa74d13d5b37e17d4db36ca74ccea5d5cd4230b298de77d"), looks := true }, kinds := [], alts := [], laidByText := true, laidKinds := [.handle], laidTests := true, laidLooks := .later }
def IntsBackUptoCardSaid : Prop := Claim7.holds Tryd.pinned (.plain (OpenSpec.upto intsBackSpec)) intsBackUptoCard

/-- THE SECOND FORM's CARD OF 'warrenlaw10.ChainForms'. -/
def chainFormsUptoCard : Claim7 := { stood := { row := chainFormsUptoRow, standIns := [], harness := (true, "78950bc944f34041cfa74d13d5b37e17d4db36ca74ccea5d5cd4230b298de77d"), looks := true }, kinds := [], alts := [], laidByText := true, laidKinds := [.handle], laidTests := true, laidLooks := .later }
def ChainFormsUptoCardSaid : Prop := Claim7.holds Tryd.pinned (.plain (OpenSpec.upto chainFormsSpec)) chainFormsUptoCard

/-- THE SECOND FORM's CARD OF 'warrenlaw10.ChainBack'. -/
def chainBackUptoCard : Claim7 := { stood := { row := chainBackUptoRow, standIns := [], harness := (true, "78950bc944f34041cfa74d13d5b37e17d4db36ca74ccea5d5cd4230b298de77d"), looks := true }, kinds := [], alts := [], laidByText := true, laidKinds := [.handle], laidTests := true, laidLooks := .later }
def ChainBackUptoCardSaid : Prop := Claim7.holds Tryd.pinned (.plain (OpenSpec.upto chainBackSpec)) chainBackUptoCard

/-- THE SECOND FORM's CARD OF 'warrenlaw10.ChainParts'. -/
def chainPartsUptoCard : Claim7 := { stood := { row := chainPartsUptoRow, standIns := [], harness := (true, "78950bc944f34041cfa74d13d5b37e17d4db36ca74ccea5d5cd4230b298de77d"), looks := true }, kinds := [], alts := [], laidByText := true, laidKinds := [.handle], laidTests := true, laidLooks := .later }
def ChainPartsUptoCardSaid : Prop := Claim7.holds Tryd.pinned (.plain (OpenSpec.upto chainPartsSpec)) chainPartsUptoCard

/-- THE SECOND FORM's CARD OF 'warrenlaw27.ScopeReaches'. -/
def scopeReachesUptoCard : Claim7 := { stood := { row := scopeReachesUptoRow, standIns := [], harness := (true, "78950bc944f34041cfa74d13d5b37e17d4db36ca74ccea5d5cd4230b298de77d"), looks := true }, kinds := [], alts := [], laidByText := true, laidKinds := [.handle], laidTests := true, laidLooks := .later }
def ScopeReachesUptoCardSaid : Prop := Claim7.holds Tryd.pinned (.plain (OpenSpec.upto scopeReachesSpec)) scopeReachesUptoCard

/-- THE SECOND FORM's CARD OF 'warrenlaw01.IntsBytes'. -/
def intsBytesUptoCard : Claim7 := { stood := { row := intsBytesUptoRow, standIns := [], harness := (true, "78950bc944f34041cfa74d13d5b37e17d4db36ca74ccea5d5cd4230b298de77d"), looks := true }, kinds := [], alts := [], laidByText := true, laidKinds := [.handle], laidTests := true, laidLooks := .later }
def IntsBytesUptoCardSaid : Prop := Claim7.holds Tryd.pinned (.plain (OpenSpec.upto intsBytesSpec)) intsBytesUptoCard

/-- THE SECOND FORM's CARD OF 'warrenlaw01.IntsJoins'. -/
def intsJoinsUptoCard : Claim7 := { stood := { row := intsJoinsUptoRow, standIns := [], harness := (true, "78950bc944f34041cfa74d13d5b37e17d4db36ca74ccea5d5cd4230b298de77d"), looks := true }, kinds := [], alts := [], laidByText := true, laidKinds := [.handle], laidTests := true, laidLooks := .later }
def IntsJoinsUptoCardSaid : Prop := Claim7.holds Tryd.pinned (.plain (OpenSpec.upto intsJoinsSpec)) intsJoinsUptoCard
end Rows
end Go.Proofs.YtploddijjofphaaDoor
