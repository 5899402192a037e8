/-
  NARROWER THAN 'FOR EVERY INPUT', by the rows' own cells (each row's printed sentence says how): FillSplits: laid · FillHalves: laid · KeysSpans: laid · KeysMeets: laid · KeysInside: laid · CrcSums: laid · CrcFinds: laid · CrcMixes: laid · VarintBytes: laid · VarintBack: laid · VarintApart: laid.
  DERIVED. THE GIVEN ROWS OF THIS SEAT. 11 by the template 'for every input the law returns true; each argument reads behind the call as it read before'; 0 by the template 'total and deterministic' (their statements: YtdmlojinmkcldaaDoorTotals.lean).
  GIVEN WITH THE SEED: the statements are not yours to turn. If you find one false, say at which input.
  Laid BY PROGRAM, IN A SANDBOX (cutbox-rows.mjs): the forced cells as the released guide's own fill.sh prints them over the translation dac5d40e238c4cb2… (all of the seat's roots in one cut). By AI agents, Wed Nov 11 2026. No macro, syntax, notation, axiom, sorry.
-/
import Derived.Test.YtdmlojinmkcldaaDoorChecked
import GoSem.Claim
import GoSem.ClaimJoined
import GoSem.ClaimMapViews
import Derived.JoinedTies
import Derived.KernelRfl
namespace Go.Proofs.YtdmlojinmkcldaaDoor
/- THE CELL 'sum', in the pinned program and in every row, IS THE sha256 OF THE DUMP (.gsa) THAT YtdmlojinmkcldaaDoorProg.lean LOADS. Nothing in Lean hashes anything: it is a label: what it is worth is what the hold of that sum in a sandbox is worth. -/
noncomputable def Tryd.pinned : Pinned := { name := "ytdmlojinmkcldaadoor", sum := "dac5d40e238c4cb2795524100f95ac5670e025f0333db5b41654258e549f2253", checked := Tryd.checked }
namespace Rows
def none {H : Type} : Left H := { results := [], args := [] }

/- WHAT THE LISTED PACKAGE-LEVEL VARIABLES READ AS WHEN THE CALL BEGINS. Each datum BY PROGRAM (the guide's laid-datum.mjs) off the statement by which the dump's own 'gosem.cut.vars' lays the variable. In a bare row this is a premise. The card (YtdmlojinmkcldaaDoorCards.lean) ties it to the program's text. -/
def laid_errors_errorType {H : Type} : DataW H := .iface "internal/reflectlite.rtype" (.agg [.ptr (.lit (.string [101, 114, 114, 111, 114]))])

/-- 'warrenlaw11.FillSplits': WHATEVER THE INPUT: true; the input reads as it did. -/
def fillSplitsSpec : ChangeSpec := { name := "fillSplits", fn := fun _ => fun
  | [d1, d2, d3] => { results := [.lit (.bool true)], args := [d1, d2, d3] }
  | _ => none }
def fillSplitsRow : OpenClaim := { program := "ytdmlojinmkcldaadoor", sum := "dac5d40e238c4cb2795524100f95ac5670e025f0333db5b41654258e549f2253", func := "warren/warrenlaw11.FillSplits", spec := "fillSplits", inPlace := ["internal/reflectlite.ValueOf", "(internal/reflectlite.Value).Type", "(internal/reflectlite.Value).IsNil", "internal/reflectlite.TypeOf", "(internal/reflectlite.Value).Elem", "(internal/reflectlite.Value).Set"], unfollowed := true, recurses := true, named := ["errors.errorType"], apart := false, laid := [("errors.errorType", laid_errors_errorType)] }
def FillSplitsSaid : Prop := fillSplitsRow.holds Tryd.pinned (OpenSpec.ofChange fillSplitsSpec)

/-- ITS FALSE NEIGHBOUR: 'it returns false'. Refute it at one input. -/
def fillSplitsWrong : ChangeSpec := { name := "fillSplits", fn := fun _ => fun
  | [d1, d2, d3] => { results := [.lit (.bool false)], args := [d1, d2, d3] }
  | _ => none }
def FillSplitsWrongFalsely : Prop := fillSplitsRow.holds Tryd.pinned (OpenSpec.ofChange fillSplitsWrong)

/-- 'warrenlaw11.FillHalves': WHATEVER THE INPUT: true; the input reads as it did. -/
def fillHalvesSpec : ChangeSpec := { name := "fillHalves", fn := fun _ => fun
  | [d] => { results := [.lit (.bool true)], args := [d] }
  | _ => none }
def fillHalvesRow : OpenClaim := { program := "ytdmlojinmkcldaadoor", sum := "dac5d40e238c4cb2795524100f95ac5670e025f0333db5b41654258e549f2253", func := "warren/warrenlaw11.FillHalves", spec := "fillHalves", inPlace := ["internal/reflectlite.ValueOf", "(internal/reflectlite.Value).Type", "(internal/reflectlite.Value).IsNil", "internal/reflectlite.TypeOf", "(internal/reflectlite.Value).Elem", "(internal/reflectlite.Value).Set"], unfollowed := true, recurses := true, named := ["errors.errorType"], apart := false, laid := [("errors.errorType", laid_errors_errorType)] }
def FillHalvesSaid : Prop := fillHalvesRow.holds Tryd.pinned (OpenSpec.ofChange fillHalvesSpec)

/-- ITS FALSE NEIGHBOUR: 'it returns false'. Refute it at one input. -/
def fillHalvesWrong : ChangeSpec := { name := "fillHalves", fn := fun _ => fun
  | [d] => { results := [.lit (.bool false)], args := [d] }
  | _ => none }
def FillHalvesWrongFalsely : Prop := fillHalvesRow.holds Tryd.pinned (OpenSpec.ofChange fillHalvesWrong)

/-- 'warrenlaw07.KeysSpans': WHATEVER THE INPUT: true; the input reads as it did. -/
def keysSpansSpec : ChangeSpec := { name := "keysSpans", fn := fun _ => fun
  | [d1, d2, d3] => { results := [.lit (.bool true)], args := [d1, d2, d3] }
  | _ => none }
def keysSpansRow : OpenClaim := { program := "ytdmlojinmkcldaadoor", sum := "dac5d40e238c4cb2795524100f95ac5670e025f0333db5b41654258e549f2253", func := "warren/warrenlaw07.KeysSpans", spec := "keysSpans", inPlace := ["internal/reflectlite.ValueOf", "(internal/reflectlite.Value).Type", "(internal/reflectlite.Value).IsNil", "internal/reflectlite.TypeOf", "(internal/reflectlite.Value).Elem", "(internal/reflectlite.Value).Set"], unfollowed := true, recurses := true, named := ["errors.errorType"], apart := false, laid := [("errors.errorType", laid_errors_errorType)] }
def KeysSpansSaid : Prop := keysSpansRow.holds Tryd.pinned (OpenSpec.ofChange keysSpansSpec)

/-- ITS FALSE NEIGHBOUR: 'it returns false'. Refute it at one input. -/
def keysSpansWrong : ChangeSpec := { name := "keysSpans", fn := fun _ => fun
  | [d1, d2, d3] => { results := [.lit (.bool false)], args := [d1, d2, d3] }
  | _ => none }
def KeysSpansWrongFalsely : Prop := keysSpansRow.holds Tryd.pinned (OpenSpec.ofChange keysSpansWrong)

/-- 'warrenlaw07.KeysMeets': WHATEVER THE INPUT: true; the input reads as it did. -/
def keysMeetsSpec : ChangeSpec := { name := "keysMeets", fn := fun _ => fun
  | [d1, d2, d3] => { results := [.lit (.bool true)], args := [d1, d2, d3] }
  | _ => none }
def keysMeetsRow : OpenClaim := { program := "ytdmlojinmkcldaadoor", sum := "dac5d40e238c4cb2795524100f95ac5670e025f0333db5b41654258e549f2253", func := "warren/warrenlaw07.KeysMeets", spec := "keysMeets", inPlace := ["internal/reflectlite.ValueOf", "(internal/reflectlite.Value).Type", "(internal/reflectlite.Value).IsNil", "internal/reflectlite.TypeOf", "(internal/reflectlite.Value).Elem", "(internal/reflectlite.Value).Set"], unfollowed := true, recurses := true, named := ["errors.errorType"], apart := false, laid := [("errors.errorType", laid_errors_errorType)] }
def KeysMeetsSaid : Prop := keysMeetsRow.holds Tryd.pinned (OpenSpec.ofChange keysMeetsSpec)

/-- ITS FALSE NEIGHBOUR: 'it returns false'. Refute it at one input. -/
def keysMeetsWrong : ChangeSpec := { name := "keysMeets", fn := fun _ => fun
  | [d1, d2, d3] => { results := [.lit (.bool false)], args := [d1, d2, d3] }
  | _ => none }
def KeysMeetsWrongFalsely : Prop := keysMeetsRow.holds Tryd.pinned (OpenSpec.ofChange keysMeetsWrong)

/-- 'warrenlaw07.KeysInside': WHATEVER THE INPUT: true; the input reads as it did. -/
def keysInsideSpec : ChangeSpec := { name := "keysInside", fn := fun _ => fun
  | [d1, d2, d3] => { results := [.lit (.bool true)], args := [d1, d2, d3] }
  | _ => none }
def keysInsideRow : OpenClaim := { program := "ytdmlojinmkcldaadoor", sum := "dac5d40e238c4cb2795524100f95ac5670e025f0333db5b41654258e549f2253", func := "warren/warrenlaw07.KeysInside", spec := "keysInside", inPlace := ["internal/reflectlite.ValueOf", "(internal/reflectlite.Value).Type", "(internal/reflectlite.Value).IsNil", "internal/reflectlite.TypeOf", "(internal/reflectlite.Value).Elem", "(internal/reflectlite.Value).Set"], unfollowed := true, recurses := true, named := ["errors.errorType"], apart := false, laid := [("errors.errorType", laid_errors_errorType)] }
def KeysInsideSaid : Prop := keysInsideRow.holds Tryd.pinned (OpenSpec.ofChange keysInsideSpec)

/-- ITS FALSE NEIGHBOUR: 'it returns false'. Refute it at one input. -/
def keysInsideWrong : ChangeSpec := { name := "keysInside", fn := fun _ => fun
  | [d1, d2, d3] => { results := [.lit (.bool false)], args := [d1, d2, d3] }
  | _ => none }
def KeysInsideWrongFalsely : Prop := keysInsideRow.holds Tryd.pinned (OpenSpec.ofChange keysInsideWrong)

/-- 'warrenlaw02.CrcSums': WHATEVER THE INPUT: true; the input reads as it did. -/
def crcSumsSpec : ChangeSpec := { name := "crcSums", fn := fun _ => fun
  | [d1, d2, d3] => { results := [.lit (.bool true)], args := [d1, d2, d3] }
  | _ => none }
def crcSumsRow : OpenClaim := { program := "ytdmlojinmkcldaadoor", sum := "dac5d40e238c4cb2795524100f95ac5670e025f0333db5b41654258e549f2253", func := "warren/warrenlaw02.CrcSums", spec := "crcSums", inPlace := ["internal/reflectlite.ValueOf", "(internal/reflectlite.Value).Type", "(internal/reflectlite.Value).IsNil", "internal/reflectlite.TypeOf", "(internal/reflectlite.Value).Elem", "(internal/reflectlite.Value).Set"], unfollowed := true, recurses := true, named := ["errors.errorType"], apart := false, laid := [("errors.errorType", laid_errors_errorType)] }
def CrcSumsSaid : Prop := crcSumsRow.holds Tryd.pinned (OpenSpec.ofChange crcSumsSpec)

/-- ITS FALSE NEIGHBOUR: 'it returns false'. Refute it at one input. -/
def crcSumsWrong : ChangeSpec := { name := "crcSums", fn := fun _ => fun
  | [d1, d2, d3] => { results := [.lit (.bool false)], args := [d1, d2, d3] }
  | _ => none }
def CrcSumsWrongFalsely : Prop := crcSumsRow.holds Tryd.pinned (OpenSpec.ofChange crcSumsWrong)

/-- 'warrenlaw02.CrcFinds': WHATEVER THE INPUT: true; the input reads as it did. -/
def crcFindsSpec : ChangeSpec := { name := "crcFinds", fn := fun _ => fun
  | [d1, d2, d3] => { results := [.lit (.bool true)], args := [d1, d2, d3] }
  | _ => none }
def crcFindsRow : OpenClaim := { program := "ytdmlojinmkcldaadoor", sum := "dac5d40e238c4cb2795524100f95ac5670e025f0333db5b41654258e549f2253", func := "warren/warrenlaw02.CrcFinds", spec := "crcFinds", inPlace := ["internal/reflectlite.ValueOf", "(internal/reflectlite.Value).Type", "(internal/reflectlite.Value).IsNil", "internal/reflectlite.TypeOf", "(internal/reflectlite.Value).Elem", "(internal/reflectlite.Value).Set"], unfollowed := true, recurses := true, named := ["errors.errorType"], apart := false, laid := [("errors.errorType", laid_errors_errorType)] }
def CrcFindsSaid : Prop := crcFindsRow.holds Tryd.pinned (OpenSpec.ofChange crcFindsSpec)

/-- ITS FALSE NEIGHBOUR: 'it returns false'. Refute it at one input. -/
def crcFindsWrong : ChangeSpec := { name := "crcFinds", fn := fun _ => fun
  | [d1, d2, d3] => { results := [.lit (.bool false)], args := [d1, d2, d3] }
  | _ => none }
def CrcFindsWrongFalsely : Prop := crcFindsRow.holds Tryd.pinned (OpenSpec.ofChange crcFindsWrong)

/-- 'warrenlaw02.CrcMixes': WHATEVER THE INPUT: true; the input reads as it did. -/
def crcMixesSpec : ChangeSpec := { name := "crcMixes", fn := fun _ => fun
  | [d1, d2, d3] => { results := [.lit (.bool true)], args := [d1, d2, d3] }
  | _ => none }
def crcMixesRow : OpenClaim := { program := "ytdmlojinmkcldaadoor", sum := "dac5d40e238c4cb2795524100f95ac5670e025f0333db5b41654258e549f2253", func := "warren/warrenlaw02.CrcMixes", spec := "crcMixes", inPlace := ["internal/reflectlite.ValueOf", "(internal/reflectlite.Value).Type", "(internal/reflectlite.Value).IsNil", "internal/reflectlite.TypeOf", "(internal/reflectlite.Value).Elem", "(internal/reflectlite.Value).Set"], unfollowed := true, recurses := true, named := ["errors.errorType"], apart := false, laid := [("errors.errorType", laid_errors_errorType)] }
def CrcMixesSaid : Prop := crcMixesRow.holds Tryd.pinned (OpenSpec.ofChange crcMixesSpec)

/-- ITS FALSE NEIGHBOUR: 'it returns false'. Refute it at one input. -/
def crcMixesWrong : ChangeSpec := { name := "crcMixes", fn := fun _ => fun
  | [d1, d2, d3] => { results := [.lit (.bool false)], args := [d1, d2, d3] }
  | _ => none }
def CrcMixesWrongFalsely : Prop := crcMixesRow.holds Tryd.pinned (OpenSpec.ofChange crcMixesWrong)

/-- 'warrenlaw03.VarintBytes': WHATEVER THE INPUT: true; the input reads as it did. -/
def varintBytesSpec : ChangeSpec := { name := "varintBytes", fn := fun _ => fun
  | [d1, d2] => { results := [.lit (.bool true)], args := [d1, d2] }
  | _ => none }
def varintBytesRow : OpenClaim := { program := "ytdmlojinmkcldaadoor", sum := "dac5d40e238c4cb2795524100f95ac5670e025f0333db5b41654258e549f2253", func := "warren/warrenlaw03.VarintBytes", spec := "varintBytes", inPlace := ["internal/reflectlite.ValueOf", "(internal/reflectlite.Value).Type", "(internal/reflectlite.Value).IsNil", "internal/reflectlite.TypeOf", "(internal/reflectlite.Value).Elem", "(internal/reflectlite.Value).Set"], unfollowed := true, recurses := true, named := ["errors.errorType"], apart := false, laid := [("errors.errorType", laid_errors_errorType)] }
def VarintBytesSaid : Prop := varintBytesRow.holds Tryd.pinned (OpenSpec.ofChange varintBytesSpec)

/-- ITS FALSE NEIGHBOUR: 'it returns false'. Refute it at one input. -/
def varintBytesWrong : ChangeSpec := { name := "varintBytes", fn := fun _ => fun
  | [d1, d2] => { results := [.lit (.bool false)], args := [d1, d2] }
  | _ => none }
def VarintBytesWrongFalsely : Prop := varintBytesRow.holds Tryd.pinned (OpenSpec.ofChange varintBytesWrong)

/-- 'warrenlaw03.VarintBack': WHATEVER THE INPUT: true; the input reads as it did. -/
def varintBackSpec : ChangeSpec := { name := "varintBack", fn := fun _ => fun
  | [d1, d2, d3] => { results := [.lit (.bool true)], args := [d1, d2, d3] }
  | _ => none }
def varintBackRow : OpenClaim := { program := "ytdmlojinmkcldaadoor", sum := "dac5d40e238c4cb2795524100f95ac5670e025f0333db5b41654258e549f2253", func := "warren/warrenlaw03.VarintBack", spec := "varintBack", inPlace := ["internal/reflectlite.ValueOf", "(internal/reflectlite.Value).Type", "(internal/reflectlite.Value).IsNil", "internal/reflectlite.TypeOf", "(internal/reflectlite.Value).Elem", "(internal/reflectlite.Value).Set"], unfollowed := true, recurses := true, named := ["errors.errorType"], apart := false, laid := [("errors.errorType", laid_errors_errorType)] }
def VarintBackSaid : Prop := varintBackRow.holds Tryd.pinned (OpenSpec.ofChange varintBackSpec)

/-- ITS FALSE NEIGHBOUR: 'it returns false'. Refute it at one input. -/
def varintBackWrong : ChangeSpec := { name := "varintBack", fn := fun _ => fun
  | [d1, d2, d3] => { results := [.lit (.bool false)], args := [d1, d2, d3] }
  | _ => none }
def VarintBackWrongFalsely : Prop := varintBackRow.holds Tryd.pinned (OpenSpec.ofChange varintBackWrong)

/-- 'warrenlaw03.VarintApart': WHATEVER THE INPUT: true; the input reads as it did. -/
def varintApartSpec : ChangeSpec := { name := "varintApart", fn := fun _ => fun
  | [d1, d2] => { results := [.lit (.bool true)], args := [d1, d2] }
  | _ => none }
def varintApartRow : OpenClaim := { program := "ytdmlojinmkcldaadoor", sum := "dac5d40e238c4cb2795524100f95ac5670e025f0333db5b41654258e549f2253", func := "warren/warrenlaw03.VarintApart", spec := "varintApart", inPlace := ["internal/reflectlite.ValueOf", "(internal/reflectlite.Value).Type", "(internal/reflectlite.Value).IsNil", "internal/reflectlite.TypeOf", "(internal/reflectlite.Value).Elem", "(internal/reflectlite.Value).Set"], unfollowed := true, recurses := true, named := ["errors.errorType"], apart := false, laid := [("errors.errorType", laid_errors_errorType)] }
def VarintApartSaid : Prop := varintApartRow.holds Tryd.pinned (OpenSpec.ofChange varintApartSpec)

/-- ITS FALSE NEIGHBOUR: 'it returns false'. Refute it at one input. -/
def varintApartWrong : ChangeSpec := { name := "varintApart", fn := fun _ => fun
  | [d1, d2] => { results := [.lit (.bool false)], args := [d1, d2] }
  | _ => none }
def VarintApartWrongFalsely : Prop := varintApartRow.holds Tryd.pinned (OpenSpec.ofChange varintApartWrong)

/- THE SECOND FORM. 'bulk': how many values and letters a reading holds, each counted each time it is reached (what is shared counts as often as it is met; a slice's spare places count too). A statement '..UptoSaid' is the law's where the arguments, and the package variables that the reading takes, are together of bulk at most 1048576: NARROWER than '..Said'. Prove '..Said' where nothing that the law and all that it calls make is longer than what came in: it says more and counts as full. Else prove '..UptoSaid'. A law counts once. -/
mutual
def uptoBulk {H : Type} : DataW H → Nat
  | .lit (.string bytes) => bytes.length + 1
  | .lit _ => 1
  | .nil => 1
  | .ptr d => uptoBulk d + 1
  | .slice elems spare => uptoBulkAll elems + uptoBulkAll spare + 1
  | .agg parts => uptoBulkAll parts + 1
  | .iface _ d => uptoBulk d + 1
  | .map entries => uptoBulkEntries entries + 1
  | .held _ => 1
def uptoBulkAll {H : Type} : List (DataW H) → Nat
  | [] => 0
  | d :: r => uptoBulk d + uptoBulkAll r
def uptoBulkEntries {H : Type} : List (Lit × DataW H) → Nat
  | [] => 0
  | x :: r => uptoBulkEntry x + uptoBulkEntries r
def uptoBulkEntry {H : Type} : Lit × DataW H → Nat
  | (.string bytes, d) => bytes.length + uptoBulk d + 1
  | (_, d) => uptoBulk d + 1
 end
def uptoSmall : (H : Type) → List (DataW H) → Bool := fun _ ds => decide (uptoBulkAll ds ≤ 1048576)
def OpenSpec.upto (s : _root_.Go.ChangeSpec) : _root_.Go.OpenSpec := { _root_.Go.OpenSpec.ofChange s with cond := some uptoSmall }

/-- 'warrenlaw11.FillSplits', WHERE WHAT IT READS IS OF BULK AT MOST 1048576: true; the input reads as it did. -/
def fillSplitsUptoRow : OpenClaim := { program := "ytdmlojinmkcldaadoor", sum := "dac5d40e238c4cb2795524100f95ac5670e025f0333db5b41654258e549f2253", func := "warren/warrenlaw11.FillSplits", spec := "fillSplits", inPlace := ["internal/reflectlite.ValueOf", "(internal/reflectlite.Value).Type", "(internal/reflectlite.Value).IsNil", "internal/reflectlite.TypeOf", "(internal/reflectlite.Value).Elem", "(internal/reflectlite.Value).Set"], unfollowed := true, recurses := true, named := ["errors.errorType"], apart := false, laid := [("errors.errorType", laid_errors_errorType)], narrowed := true }
def FillSplitsUptoSaid : Prop := fillSplitsUptoRow.holds Tryd.pinned (OpenSpec.upto fillSplitsSpec)

/-- 'warrenlaw11.FillHalves', WHERE WHAT IT READS IS OF BULK AT MOST 1048576: true; the input reads as it did. -/
def fillHalvesUptoRow : OpenClaim := { program := "ytdmlojinmkcldaadoor", sum := "dac5d40e238c4cb2795524100f95ac5670e025f0333db5b41654258e549f2253", func := "warren/warrenlaw11.FillHalves", spec := "fillHalves", inPlace := ["internal/reflectlite.ValueOf", "(internal/reflectlite.Value).Type", "(internal/reflectlite.Value).IsNil", "internal/reflectlite.TypeOf", "(internal/reflectlite.Value).Elem", "(internal/reflectlite.Value).Set"], unfollowed := true, recurses := true, named := ["errors.errorType"], apart := false, laid := [("errors.errorType", laid_errors_errorType)], narrowed := true }
def FillHalvesUptoSaid : Prop := fillHalvesUptoRow.holds Tryd.pinned (OpenSpec.upto fillHalvesSpec)

/-- 'warrenlaw07.KeysSpans', WHERE WHAT IT READS IS OF BULK AT MOST 1048576: true; the input reads as it did. -/
def keysSpansUptoRow : OpenClaim := { program := "ytdmlojinmkcldaadoor", sum := "dac5d40e238c4cb2795524100f95ac5670e025f0333db5b41654258e549f2253", func := "warren/warrenlaw07.KeysSpans", spec := "keysSpans", inPlace := ["internal/reflectlite.ValueOf", "(internal/reflectlite.Value).Type", "(internal/reflectlite.Value).IsNil", "internal/reflectlite.TypeOf", "(internal/reflectlite.Value).Elem", "(internal/reflectlite.Value).Set"], unfollowed := true, recurses := true, named := ["errors.errorType"], apart := false, laid := [("errors.errorType", laid_errors_errorType)], narrowed := true }
def KeysSpansUptoSaid : Prop := keysSpansUptoRow.holds Tryd.pinned (OpenSpec.upto keysSpansSpec)

/-- 'warrenlaw07.KeysMeets', WHERE WHAT IT READS IS OF BULK AT MOST 1048576: true; the input reads as it did. -/
def keysMeetsUptoRow : OpenClaim := { program := "ytdmlojinmkcldaadoor", sum := "dac5d40e238c4cb2795524100f95ac5670e025f0333db5b41654258e549f2253", func := "warren/warrenlaw07.KeysMeets", spec := "keysMeets", inPlace := ["internal/reflectlite.ValueOf", "(internal/reflectlite.Value).Type", "(internal/reflectlite.Value).IsNil", "internal/reflectlite.TypeOf", "(internal/reflectlite.Value).Elem", "(internal/reflectlite.Value).Set"], unfollowed := true, recurses := true, named := ["errors.errorType"], apart := false, laid := [("errors.errorType", laid_errors_errorType)], narrowed := true }
def KeysMeetsUptoSaid : Prop := keysMeetsUptoRow.holds Tryd.pinned (OpenSpec.upto keysMeetsSpec)

/-- 'warrenlaw07.KeysInside', WHERE WHAT IT READS IS OF BULK AT MOST 1048576: true; the input reads as it did. -/
def keysInsideUptoRow : OpenClaim := { program := "ytdmlojinmkcldaadoor", sum := "dac5d40e238c4cb2795524100f95ac5670e025f0333db5b41654258e549f2253", func := "warren/warrenlaw07.KeysInside", spec := "keysInside", inPlace := ["internal/reflectlite.ValueOf", "(internal/reflectlite.Value).Type", "(internal/reflectlite.Value).IsNil", "internal/reflectlite.TypeOf", "(internal/reflectlite.Value).Elem", "(internal/reflectlite.Value).Set"], unfollowed := true, recurses := true, named := ["errors.errorType"], apart := false, laid := [("errors.errorType", laid_errors_errorType)], narrowed := true }
def KeysInsideUptoSaid : Prop := keysInsideUptoRow.holds Tryd.pinned (OpenSpec.upto keysInsideSpec)

/-- 'warrenlaw02.CrcSums', WHERE WHAT IT READS IS OF BULK AT MOST 1048576: true; the input reads as it did. -/
def crcSumsUptoRow : OpenClaim := { program := "ytdmlojinmkcldaadoor", sum := "dac5d40e238c4cb2795524100f95ac5670e025f0333db5b41654258e549f2253", func := "warren/warrenlaw02.CrcSums", spec := "crcSums", inPlace := ["internal/reflectlite.ValueOf", "(internal/reflectlite.Value).Type", "(internal/reflectlite.Value).IsNil", "internal/reflectlite.TypeOf", "(internal/reflectlite.Value).Elem", "(internal/reflectlite.Value).Set"], unfollowed := true, recurses := true, named := ["errors.errorType"], apart := false, laid := [("errors.errorType", laid_errors_errorType)], narrowed := true }
def CrcSumsUptoSaid : Prop := crcSumsUptoRow.holds Tryd.pinned (OpenSpec.upto crcSumsSpec)

/-- 'warrenlaw02.CrcFinds', WHERE WHAT IT READS IS OF BULK AT MOST 1048576: true; the input reads as it did. -/
def crcFindsUptoRow : OpenClaim := { program := "ytdmlojinmkcldaadoor", sum := "dac5d40e238c4cb2795524100f95ac5670e025f0333db5b41654258e549f2253", func := "warren/warrenlaw02.CrcFinds", spec := "crcFinds", inPlace := ["internal/reflectlite.ValueOf", "(internal/reflectlite.Value).Type", "(internal/reflectlite.Value).IsNil", "internal/reflectlite.TypeOf", "(internal/reflectlite.Value).Elem", "(internal/reflectlite.Value).Set"], unfollowed := true, recurses := true, named := ["errors.errorType"], apart := false, laid := [("errors.errorType", laid_errors_errorType)], narrowed := true }
def CrcFindsUptoSaid : Prop := crcFindsUptoRow.holds Tryd.pinned (OpenSpec.upto crcFindsSpec)

/-- 'warrenlaw02.CrcMixes', WHERE WHAT IT READS IS OF BULK AT MOST 1048576: true; the input reads as it did. -/
def crcMixesUptoRow : OpenClaim := { program := "ytdmlojinmkcldaadoor", sum := "dac5d40e238c4cb2795524100f95ac5670e025f0333db5b41654258e549f2253", func := "warren/warrenlaw02.CrcMixes", spec := "crcMixes", inPlace := ["internal/reflectlite.ValueOf", "(internal/reflectlite.Value).Type", "(internal/reflectlite.Value).IsNil", "internal/reflectlite.TypeOf", "(internal/reflectlite.Value).Elem", "(internal/reflectlite.Value).Set"], unfollowed := true, recurses := true, named := ["errors.errorType"], apart := false, laid := [("errors.errorType", laid_errors_errorType)], narrowed := true }
def CrcMixesUptoSaid : Prop := crcMixesUptoRow.holds Tryd.pinned (OpenSpec.upto crcMixesSpec)

/-- 'warrenlaw03.VarintBytes', WHERE WHAT IT READS IS OF BULK AT MOST 1048576: true; the input reads as it did. -/
def varintBytesUptoRow : OpenClaim := { program := "ytdmlojinmkcldaadoor", sum := "dac5d40e238c4cb2795524100f95ac5670e025f0333db5b41654258e549f2253", func := "warren/warrenlaw03.VarintBytes", spec := "varintBytes", inPlace := ["internal/reflectlite.ValueOf", "(internal/reflectlite.Value).Type", "(internal/reflectlite.Value).IsNil", "internal/reflectlite.TypeOf", "(internal/reflectlite.Value).Elem", "(internal/reflectlite.Value).Set"], unfollowed := true, recurses := true, named := ["errors.errorType"], apart := false, laid := [("errors.errorType", laid_errors_errorType)], narrowed := true }
def VarintBytesUptoSaid : Prop := varintBytesUptoRow.holds Tryd.pinned (OpenSpec.upto varintBytesSpec)

/-- 'warrenlaw03.VarintBack', WHERE WHAT IT READS IS OF BULK AT MOST 1048576: true; the input reads as it did. -/
def varintBackUptoRow : OpenClaim := { program := "ytdmlojinmkcldaadoor", sum := "dac5d40e238c4cb2795524100f95ac5670e025f0333db5b41654258e549f2253", func := "warren/warrenlaw03.VarintBack", spec := "varintBack", inPlace := ["internal/reflectlite.ValueOf", "(internal/reflectlite.Value).Type", "(internal/reflectlite.Value).IsNil", "internal/reflectlite.TypeOf", "(internal/reflectlite.Value).Elem", "(internal/reflectlite.Value).Set"], unfollowed := true, recurses := true, named := ["errors.errorType"], apart := false, laid := [("errors.errorType", laid_errors_errorType)], narrowed := true }
def VarintBackUptoSaid : Prop := varintBackUptoRow.holds Tryd.pinned (OpenSpec.upto varintBackSpec)

/-- 'warrenlaw03.VarintApart', WHERE WHAT IT READS IS OF BULK AT MOST 1048576: true; the input reads as it did. -/
def varintApartUptoRow : OpenClaim := { program := "ytdmlojinmkcldaadoor", sum := "dac5d40e238c4cb2795524100f95ac5670e025f0333db5b41654258e549f2253", func := "warren/warrenlaw03.VarintApart", spec := "varintApart", inPlace := ["internal/reflectlite.ValueOf", "(internal/reflectlite.Value).Type", "(internal/reflectlite.Value).IsNil", "internal/reflectlite.TypeOf", "(internal/reflectlite.Value).Elem", "(internal/reflectlite.Value).Set"], unfollowed := true, recurses := true, named := ["errors.errorType"], apart := false, laid := [("errors.errorType", laid_errors_errorType)], narrowed := true }
def VarintApartUptoSaid : Prop := varintApartUptoRow.holds Tryd.pinned (OpenSpec.upto varintApartSpec)

end Rows
end Go.Proofs.YtdmlojinmkcldaaDoor
