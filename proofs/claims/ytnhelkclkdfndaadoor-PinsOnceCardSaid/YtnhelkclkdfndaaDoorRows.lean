/-
  NARROWER THAN 'FOR EVERY INPUT', by the rows' own cells (each row's printed sentence says how): PinsTells: laid · PinsHold: laid · PinsOnce: laid · HeadForms: laid · HeadNewest: laid · HeadAlone: laid · ForestTells: laid · ForestGiven: laid · ForestCounts: laid · BranchForms: laid · BranchBack: laid.
  DERIVED. THE GIVEN ROWS OF THIS SEAT. 11 by the template 'for every input the law returns true; each argument reads behind the call as it read before'; 0 by the template 'total and deterministic' (their statements: YtnhelkclkdfndaaDoorTotals.lean).
  GIVEN WITH THE SEED: the statements are not yours to turn. If you find one false, say at which input.
  Laid BY PROGRAM, IN A SANDBOX (cutbox-rows.mjs): the forced cells as the released guide's own fill.sh prints them over the translation 313939266842d033… (all of the seat's roots in one cut). By AI agents, Wed Nov 11 2026. No macro, syntax, notation, axiom, sorry.
-/
import Derived.Test.YtnhelkclkdfndaaDoorChecked
import GoSem.Claim
import GoSem.ClaimJoined
import GoSem.ClaimMapViews
import Derived.JoinedTies
import Derived.KernelRfl
namespace Go.Proofs.YtnhelkclkdfndaaDoor
/- THE CELL 'sum', in the pinned program and in every row, IS THE sha256 OF THE DUMP (.gsa) THAT YtnhelkclkdfndaaDoorProg.lean LOADS. Nothing in Lean hashes anything: it is a label: what it is worth is what the hold of that sum in a sandbox is worth. -/
noncomputable def Tryd.pinned : Pinned := { name := "ytnhelkclkdfndaadoor", sum := "313939266842d0334cdc2cb7fab452338f3dea41cecb90de21b410187bbbec50", checked := Tryd.checked }
namespace Rows
def none {H : Type} : Left H := { results := [], args := [] }

/- WHAT THE LISTED PACKAGE-LEVEL VARIABLES READ AS WHEN THE CALL BEGINS. Each datum BY PROGRAM (the guide's laid-datum.mjs) off the statement by which the dump's own 'gosem.cut.vars' lays the variable. In a bare row this is a premise. The card (YtnhelkclkdfndaaDoorCards.lean) ties it to the program's text. -/
def laid_errors_errorType {H : Type} : DataW H := .iface "internal/reflectlite.rtype" (.agg [.ptr (.lit (.string [101, 114, 114, 111, 114]))])

/-- 'warrenlaw18.PinsTells': WHATEVER THE INPUT: true; the input reads as it did. -/
def pinsTellsSpec : ChangeSpec := { name := "pinsTells", fn := fun _ => fun
  | [d1, d2, d3] => { results := [.lit (.bool true)], args := [d1, d2, d3] }
  | _ => none }
def pinsTellsRow : OpenClaim := { program := "ytnhelkclkdfndaadoor", sum := "313939266842d0334cdc2cb7fab452338f3dea41cecb90de21b410187bbbec50", func := "warren/warrenlaw18.PinsTells", spec := "pinsTells", inPlace := ["internal/reflectlite.ValueOf", "(internal/reflectlite.Value).Type", "(internal/reflectlite.Value).IsNil", "internal/reflectlite.TypeOf", "(internal/reflectlite.Value).Elem", "(internal/reflectlite.Value).Set"], unfollowed := true, recurses := true, named := ["errors.errorType"], apart := false, laid := [("errors.errorType", laid_errors_errorType)] }
def PinsTellsSaid : Prop := pinsTellsRow.holds Tryd.pinned (OpenSpec.ofChange pinsTellsSpec)

/-- ITS FALSE NEIGHBOUR: 'it returns false'. Refute it at one input. -/
def pinsTellsWrong : ChangeSpec := { name := "pinsTells", fn := fun _ => fun
  | [d1, d2, d3] => { results := [.lit (.bool false)], args := [d1, d2, d3] }
  | _ => none }
def PinsTellsWrongFalsely : Prop := pinsTellsRow.holds Tryd.pinned (OpenSpec.ofChange pinsTellsWrong)

/-- 'warrenlaw18.PinsHold': WHATEVER THE INPUT: true; the input reads as it did. -/
def pinsHoldSpec : ChangeSpec := { name := "pinsHold", fn := fun _ => fun
  | [d1, d2, d3] => { results := [.lit (.bool true)], args := [d1, d2, d3] }
  | _ => none }
def pinsHoldRow : OpenClaim := { program := "ytnhelkclkdfndaadoor", sum := "313939266842d0334cdc2cb7fab452338f3dea41cecb90de21b410187bbbec50", func := "warren/warrenlaw18.PinsHold", spec := "pinsHold", inPlace := ["internal/reflectlite.ValueOf", "(internal/reflectlite.Value).Type", "(internal/reflectlite.Value).IsNil", "internal/reflectlite.TypeOf", "(internal/reflectlite.Value).Elem", "(internal/reflectlite.Value).Set"], unfollowed := true, recurses := true, named := ["errors.errorType"], apart := false, laid := [("errors.errorType", laid_errors_errorType)] }
def PinsHoldSaid : Prop := pinsHoldRow.holds Tryd.pinned (OpenSpec.ofChange pinsHoldSpec)

/-- ITS FALSE NEIGHBOUR: 'it returns false'. Refute it at one input. -/
def pinsHoldWrong : ChangeSpec := { name := "pinsHold", fn := fun _ => fun
  | [d1, d2, d3] => { results := [.lit (.bool false)], args := [d1, d2, d3] }
  | _ => none }
def PinsHoldWrongFalsely : Prop := pinsHoldRow.holds Tryd.pinned (OpenSpec.ofChange pinsHoldWrong)

/-- 'warrenlaw18.PinsOnce': WHATEVER THE INPUT: true; the input reads as it did. -/
def pinsOnceSpec : ChangeSpec := { name := "pinsOnce", fn := fun _ => fun
  | [d] => { results := [.lit (.bool true)], args := [d] }
  | _ => none }
def pinsOnceRow : OpenClaim := { program := "ytnhelkclkdfndaadoor", sum := "313939266842d0334cdc2cb7fab452338f3dea41cecb90de21b410187bbbec50", func := "warren/warrenlaw18.PinsOnce", spec := "pinsOnce", inPlace := ["internal/reflectlite.ValueOf", "(internal/reflectlite.Value).Type", "(internal/reflectlite.Value).IsNil", "internal/reflectlite.TypeOf", "(internal/reflectlite.Value).Elem", "(internal/reflectlite.Value).Set"], unfollowed := true, recurses := true, named := ["errors.errorType"], apart := false, laid := [("errors.errorType", laid_errors_errorType)] }
def PinsOnceSaid : Prop := pinsOnceRow.holds Tryd.pinned (OpenSpec.ofChange pinsOnceSpec)

/-- ITS FALSE NEIGHBOUR: 'it returns false'. Refute it at one input. -/
def pinsOnceWrong : ChangeSpec := { name := "pinsOnce", fn := fun _ => fun
  | [d] => { results := [.lit (.bool false)], args := [d] }
  | _ => none }
def PinsOnceWrongFalsely : Prop := pinsOnceRow.holds Tryd.pinned (OpenSpec.ofChange pinsOnceWrong)

/-- 'warrenlaw19.HeadForms': WHATEVER THE INPUT: true; the input reads as it did. -/
def headFormsSpec : ChangeSpec := { name := "headForms", fn := fun _ => fun
  | [d1, d2, d3] => { results := [.lit (.bool true)], args := [d1, d2, d3] }
  | _ => none }
def headFormsRow : OpenClaim := { program := "ytnhelkclkdfndaadoor", sum := "313939266842d0334cdc2cb7fab452338f3dea41cecb90de21b410187bbbec50", func := "warren/warrenlaw19.HeadForms", spec := "headForms", inPlace := ["internal/reflectlite.ValueOf", "(internal/reflectlite.Value).Type", "(internal/reflectlite.Value).IsNil", "internal/reflectlite.TypeOf", "(internal/reflectlite.Value).Elem", "(internal/reflectlite.Value).Set"], unfollowed := true, recurses := true, named := ["errors.errorType"], apart := false, laid := [("errors.errorType", laid_errors_errorType)] }
def HeadFormsSaid : Prop := headFormsRow.holds Tryd.pinned (OpenSpec.ofChange headFormsSpec)

/-- ITS FALSE NEIGHBOUR: 'it returns false'. Refute it at one input. -/
def headFormsWrong : ChangeSpec := { name := "headForms", fn := fun _ => fun
  | [d1, d2, d3] => { results := [.lit (.bool false)], args := [d1, d2, d3] }
  | _ => none }
def HeadFormsWrongFalsely : Prop := headFormsRow.holds Tryd.pinned (OpenSpec.ofChange headFormsWrong)

/-- 'warrenlaw19.HeadNewest': WHATEVER THE INPUT: true; the input reads as it did. -/
def headNewestSpec : ChangeSpec := { name := "headNewest", fn := fun _ => fun
  | [d1, d2, d3] => { results := [.lit (.bool true)], args := [d1, d2, d3] }
  | _ => none }
def headNewestRow : OpenClaim := { program := "ytnhelkclkdfndaadoor", sum := "313939266842d0334cdc2cb7fab452338f3dea41cecb90de21b410187bbbec50", func := "warren/warrenlaw19.HeadNewest", spec := "headNewest", inPlace := ["internal/reflectlite.ValueOf", "(internal/reflectlite.Value).Type", "(internal/reflectlite.Value).IsNil", "internal/reflectlite.TypeOf", "(internal/reflectlite.Value).Elem", "(internal/reflectlite.Value).Set"], unfollowed := true, recurses := true, named := ["errors.errorType"], apart := false, laid := [("errors.errorType", laid_errors_errorType)] }
def HeadNewestSaid : Prop := headNewestRow.holds Tryd.pinned (OpenSpec.ofChange headNewestSpec)

/-- ITS FALSE NEIGHBOUR: 'it returns false'. Refute it at one input. -/
def headNewestWrong : ChangeSpec := { name := "headNewest", fn := fun _ => fun
  | [d1, d2, d3] => { results := [.lit (.bool false)], args := [d1, d2, d3] }
  | _ => none }
def HeadNewestWrongFalsely : Prop := headNewestRow.holds Tryd.pinned (OpenSpec.ofChange headNewestWrong)

/-- 'warrenlaw19.HeadAlone': WHATEVER THE INPUT: true; the input reads as it did. -/
def headAloneSpec : ChangeSpec := { name := "headAlone", fn := fun _ => fun
  | [d1, d2] => { results := [.lit (.bool true)], args := [d1, d2] }
  | _ => none }
def headAloneRow : OpenClaim := { program := "ytnhelkclkdfndaadoor", sum := "313939266842d0334cdc2cb7fab452338f3dea41cecb90de21b410187bbbec50", func := "warren/warrenlaw19.HeadAlone", spec := "headAlone", inPlace := ["internal/reflectlite.ValueOf", "(internal/reflectlite.Value).Type", "(internal/reflectlite.Value).IsNil", "internal/reflectlite.TypeOf", "(internal/reflectlite.Value).Elem", "(internal/reflectlite.Value).Set"], unfollowed := true, recurses := true, named := ["errors.errorType"], apart := false, laid := [("errors.errorType", laid_errors_errorType)] }
def HeadAloneSaid : Prop := headAloneRow.holds Tryd.pinned (OpenSpec.ofChange headAloneSpec)

/-- ITS FALSE NEIGHBOUR: 'it returns false'. Refute it at one input. -/
def headAloneWrong : ChangeSpec := { name := "headAlone", fn := fun _ => fun
  | [d1, d2] => { results := [.lit (.bool false)], args := [d1, d2] }
  | _ => none }
def HeadAloneWrongFalsely : Prop := headAloneRow.holds Tryd.pinned (OpenSpec.ofChange headAloneWrong)

/-- 'warrenlaw29.ForestTells': WHATEVER THE INPUT: true; the input reads as it did. -/
def forestTellsSpec : ChangeSpec := { name := "forestTells", fn := fun _ => fun
  | [d1, d2] => { results := [.lit (.bool true)], args := [d1, d2] }
  | _ => none }
def forestTellsRow : OpenClaim := { program := "ytnhelkclkdfndaadoor", sum := "313939266842d0334cdc2cb7fab452338f3dea41cecb90de21b410187bbbec50", func := "warren/warrenlaw29.ForestTells", spec := "forestTells", inPlace := ["internal/reflectlite.ValueOf", "(internal/reflectlite.Value).Type", "(internal/reflectlite.Value).IsNil", "internal/reflectlite.TypeOf", "(internal/reflectlite.Value).Elem", "(internal/reflectlite.Value).Set"], unfollowed := true, recurses := true, named := ["errors.errorType"], apart := false, laid := [("errors.errorType", laid_errors_errorType)] }
def ForestTellsSaid : Prop := forestTellsRow.holds Tryd.pinned (OpenSpec.ofChange forestTellsSpec)

/-- ITS FALSE NEIGHBOUR: 'it returns false'. Refute it at one input. -/
def forestTellsWrong : ChangeSpec := { name := "forestTells", fn := fun _ => fun
  | [d1, d2] => { results := [.lit (.bool false)], args := [d1, d2] }
  | _ => none }
def ForestTellsWrongFalsely : Prop := forestTellsRow.holds Tryd.pinned (OpenSpec.ofChange forestTellsWrong)

/-- 'warrenlaw29.ForestGiven': WHATEVER THE INPUT: true; the input reads as it did. -/
def forestGivenSpec : ChangeSpec := { name := "forestGiven", fn := fun _ => fun
  | [d1, d2, d3] => { results := [.lit (.bool true)], args := [d1, d2, d3] }
  | _ => none }
def forestGivenRow : OpenClaim := { program := "ytnhelkclkdfndaadoor", sum := "313939266842d0334cdc2cb7fab452338f3dea41cecb90de21b410187bbbec50", func := "warren/warrenlaw29.ForestGiven", spec := "forestGiven", inPlace := ["internal/reflectlite.ValueOf", "(internal/reflectlite.Value).Type", "(internal/reflectlite.Value).IsNil", "internal/reflectlite.TypeOf", "(internal/reflectlite.Value).Elem", "(internal/reflectlite.Value).Set"], unfollowed := true, recurses := true, named := ["errors.errorType"], apart := false, laid := [("errors.errorType", laid_errors_errorType)] }
def ForestGivenSaid : Prop := forestGivenRow.holds Tryd.pinned (OpenSpec.ofChange forestGivenSpec)

/-- ITS FALSE NEIGHBOUR: 'it returns false'. Refute it at one input. -/
def forestGivenWrong : ChangeSpec := { name := "forestGiven", fn := fun _ => fun
  | [d1, d2, d3] => { results := [.lit (.bool false)], args := [d1, d2, d3] }
  | _ => none }
def ForestGivenWrongFalsely : Prop := forestGivenRow.holds Tryd.pinned (OpenSpec.ofChange forestGivenWrong)

/-- 'warrenlaw29.ForestCounts': WHATEVER THE INPUT: true; the input reads as it did. -/
def forestCountsSpec : ChangeSpec := { name := "forestCounts", fn := fun _ => fun
  | [d1, d2] => { results := [.lit (.bool true)], args := [d1, d2] }
  | _ => none }
def forestCountsRow : OpenClaim := { program := "ytnhelkclkdfndaadoor", sum := "313939266842d0334cdc2cb7fab452338f3dea41cecb90de21b410187bbbec50", func := "warren/warrenlaw29.ForestCounts", spec := "forestCounts", inPlace := ["internal/reflectlite.ValueOf", "(internal/reflectlite.Value).Type", "(internal/reflectlite.Value).IsNil", "internal/reflectlite.TypeOf", "(internal/reflectlite.Value).Elem", "(internal/reflectlite.Value).Set"], unfollowed := true, recurses := true, named := ["errors.errorType"], apart := false, laid := [("errors.errorType", laid_errors_errorType)] }
def ForestCountsSaid : Prop := forestCountsRow.holds Tryd.pinned (OpenSpec.ofChange forestCountsSpec)

/-- ITS FALSE NEIGHBOUR: 'it returns false'. Refute it at one input. -/
def forestCountsWrong : ChangeSpec := { name := "forestCounts", fn := fun _ => fun
  | [d1, d2] => { results := [.lit (.bool false)], args := [d1, d2] }
  | _ => none }
def ForestCountsWrongFalsely : Prop := forestCountsRow.holds Tryd.pinned (OpenSpec.ofChange forestCountsWrong)

/-- 'warrenlaw09.BranchForms': WHATEVER THE INPUT: true; the input reads as it did. -/
def branchFormsSpec : ChangeSpec := { name := "branchForms", fn := fun _ => fun
  | [d1, d2] => { results := [.lit (.bool true)], args := [d1, d2] }
  | _ => none }
def branchFormsRow : OpenClaim := { program := "ytnhelkclkdfndaadoor", sum := "313939266842d0334cdc2cb7fab452338f3dea41cecb90de21b410187bbbec50", func := "warren/warrenlaw09.BranchForms", spec := "branchForms", inPlace := ["internal/reflectlite.ValueOf", "(internal/reflectlite.Value).Type", "(internal/reflectlite.Value).IsNil", "internal/reflectlite.TypeOf", "(internal/reflectlite.Value).Elem", "(internal/reflectlite.Value).Set"], unfollowed := true, recurses := true, named := ["errors.errorType"], apart := false, laid := [("errors.errorType", laid_errors_errorType)] }
def BranchFormsSaid : Prop := branchFormsRow.holds Tryd.pinned (OpenSpec.ofChange branchFormsSpec)

/-- ITS FALSE NEIGHBOUR: 'it returns false'. Refute it at one input. -/
def branchFormsWrong : ChangeSpec := { name := "branchForms", fn := fun _ => fun
  | [d1, d2] => { results := [.lit (.bool false)], args := [d1, d2] }
  | _ => none }
def BranchFormsWrongFalsely : Prop := branchFormsRow.holds Tryd.pinned (OpenSpec.ofChange branchFormsWrong)

/-- 'warrenlaw09.BranchBack': WHATEVER THE INPUT: true; the input reads as it did. -/
def branchBackSpec : ChangeSpec := { name := "branchBack", fn := fun _ => fun
  | [d1, d2] => { results := [.lit (.bool true)], args := [d1, d2] }
  | _ => none }
def branchBackRow : OpenClaim := { program := "ytnhelkclkdfndaadoor", sum := "313939266842d0334cdc2cb7fab452338f3dea41cecb90de21b410187bbbec50", func := "warren/warrenlaw09.BranchBack", spec := "branchBack", inPlace := ["internal/reflectlite.ValueOf", "(internal/reflectlite.Value).Type", "(internal/reflectlite.Value).IsNil", "internal/reflectlite.TypeOf", "(internal/reflectlite.Value).Elem", "(internal/reflectlite.Value).Set"], unfollowed := true, recurses := true, named := ["errors.errorType"], apart := false, laid := [("errors.errorType", laid_errors_errorType)] }
def BranchBackSaid : Prop := branchBackRow.holds Tryd.pinned (OpenSpec.ofChange branchBackSpec)

/-- ITS FALSE NEIGHBOUR: 'it returns false'. Refute it at one input. -/
def branchBackWrong : ChangeSpec := { name := "branchBack", fn := fun _ => fun
  | [d1, d2] => { results := [.lit (.bool false)], args := [d1, d2] }
  | _ => none }
def BranchBackWrongFalsely : Prop := branchBackRow.holds Tryd.pinned (OpenSpec.ofChange branchBackWrong)

/- THE SECOND FORM. 'bulk': how many values and letters a reading holds, each counted each time it is reached (what is shared counts as often as it is met; a slice's spare places count too). A statement '..UptoSaid' is the law's where the arguments, and the package variables that the reading takes, are together of bulk at most 1048576: NARROWER than '..Said'. Prove '..Said' where nothing that the law and all that it calls make is longer than what came in: it says more and counts as full. Else prove '..UptoSaid'. A law counts once. -/
mutual
def uptoBulk {H : Type} : DataW H → Nat
  | .lit (.string bytes) => bytes.length + 1
  | .lit _ => 1
  | .nil => 1
  | .ptr d => uptoBulk d + 1
  | .slice elems spare => uptoBulkAll elems + uptoBulkAll spare + 1
  | .agg parts => uptoBulkAll parts + 1
  | .iface _ d => uptoBulk d + 1
  | .map entries => uptoBulkEntries entries + 1
  | .held _ => 1
def uptoBulkAll {H : Type} : List (DataW H) → Nat
  | [] => 0
  | d :: r => uptoBulk d + uptoBulkAll r
def uptoBulkEntries {H : Type} : List (Lit × DataW H) → Nat
  | [] => 0
  | x :: r => uptoBulkEntry x + uptoBulkEntries r
def uptoBulkEntry {H : Type} : Lit × DataW H → Nat
  | (.string bytes, d) => bytes.length + uptoBulk d + 1
  | (_, d) => uptoBulk d + 1
 end
def uptoSmall : (H : Type) → List (DataW H) → Bool := fun _ ds => decide (uptoBulkAll ds ≤ 1048576)
def OpenSpec.upto (s : _root_.Go.ChangeSpec) : _root_.Go.OpenSpec := { _root_.Go.OpenSpec.ofChange s with cond := some uptoSmall }

/-- 'warrenlaw18.PinsTells', WHERE WHAT IT READS IS OF BULK AT MOST 1048576: true; the input reads as it did. -/
def pinsTellsUptoRow : OpenClaim := { program := "ytnhelkclkdfndaadoor", sum := "313939266842d0334cdc2cb7fab452338f3dea41cecb90de21b410187bbbec50", func := "warren/warrenlaw18.PinsTells", spec := "pinsTells", inPlace := ["internal/reflectlite.ValueOf", "(internal/reflectlite.Value).Type", "(internal/reflectlite.Value).IsNil", "internal/reflectlite.TypeOf", "(internal/reflectlite.Value).Elem", "(internal/reflectlite.Value).Set"], unfollowed := true, recurses := true, named := ["errors.errorType"], apart := false, laid := [("errors.errorType", laid_errors_errorType)], narrowed := true }
def PinsTellsUptoSaid : Prop := pinsTellsUptoRow.holds Tryd.pinned (OpenSpec.upto pinsTellsSpec)

/-- 'warrenlaw18.PinsHold', WHERE WHAT IT READS IS OF BULK AT MOST 1048576: true; the input reads as it did. -/
def pinsHoldUptoRow : OpenClaim := { program := "ytnhelkclkdfndaadoor", sum := "313939266842d0334cdc2cb7fab452338f3dea41cecb90de21b410187bbbec50", func := "warren/warrenlaw18.PinsHold", spec := "pinsHold", inPlace := ["internal/reflectlite.ValueOf", "(internal/reflectlite.Value).Type", "(internal/reflectlite.Value).IsNil", "internal/reflectlite.TypeOf", "(internal/reflectlite.Value).Elem", "(internal/reflectlite.Value).Set"], unfollowed := true, recurses := true, named := ["errors.errorType"], apart := false, laid := [("errors.errorType", laid_errors_errorType)], narrowed := true }
def PinsHoldUptoSaid : Prop := pinsHoldUptoRow.holds Tryd.pinned (OpenSpec.upto pinsHoldSpec)

/-- 'warrenlaw18.PinsOnce', WHERE WHAT IT READS IS OF BULK AT MOST 1048576: true; the input reads as it did. -/
def pinsOnceUptoRow : OpenClaim := { program := "ytnhelkclkdfndaadoor", sum := "313939266842d0334cdc2cb7fab452338f3dea41cecb90de21b410187bbbec50", func := "warren/warrenlaw18.PinsOnce", spec := "pinsOnce", inPlace := ["internal/reflectlite.ValueOf", "(internal/reflectlite.Value).Type", "(internal/reflectlite.Value).IsNil", "internal/reflectlite.TypeOf", "(internal/reflectlite.Value).Elem", "(internal/reflectlite.Value).Set"], unfollowed := true, recurses := true, named := ["errors.errorType"], apart := false, laid := [("errors.errorType", laid_errors_errorType)], narrowed := true }
def PinsOnceUptoSaid : Prop := pinsOnceUptoRow.holds Tryd.pinned (OpenSpec.upto pinsOnceSpec)

/-- 'warrenlaw19.HeadForms', WHERE WHAT IT READS IS OF BULK AT MOST 1048576: true; the input reads as it did. -/
def headFormsUptoRow : OpenClaim := { program := "ytnhelkclkdfndaadoor", sum := "313939266842d0334cdc2cb7fab452338f3dea41cecb90de21b410187bbbec50", func := "warren/warrenlaw19.HeadForms", spec := "headForms", inPlace := ["internal/reflectlite.ValueOf", "(internal/reflectlite.Value).Type", "(internal/reflectlite.Value).IsNil", "internal/reflectlite.TypeOf", "(internal/reflectlite.Value).Elem", "(internal/reflectlite.Value).Set"], unfollowed := true, recurses := true, named := ["errors.errorType"], apart := false, laid := [("errors.errorType", laid_errors_errorType)], narrowed := true }
def HeadFormsUptoSaid : Prop := headFormsUptoRow.holds Tryd.pinned (OpenSpec.upto headFormsSpec)

/-- 'warrenlaw19.HeadNewest', WHERE WHAT IT READS IS OF BULK AT MOST 1048576: true; the input reads as it did. -/
def headNewestUptoRow : OpenClaim := { program := "ytnhelkclkdfndaadoor", sum := "313939266842d0334cdc2cb7fab452338f3dea41cecb90de21b410187bbbec50", func := "warren/warrenlaw19.HeadNewest", spec := "headNewest", inPlace := ["internal/reflectlite.ValueOf", "(internal/reflectlite.Value).Type", "(internal/reflectlite.Value).IsNil", "internal/reflectlite.TypeOf", "(internal/reflectlite.Value).Elem", "(internal/reflectlite.Value).Set"], unfollowed := true, recurses := true, named := ["errors.errorType"], apart := false, laid := [("errors.errorType", laid_errors_errorType)], narrowed := true }
def HeadNewestUptoSaid : Prop := headNewestUptoRow.holds Tryd.pinned (OpenSpec.upto headNewestSpec)

/-- 'warrenlaw19.HeadAlone', WHERE WHAT IT READS IS OF BULK AT MOST 1048576: true; the input reads as it did. -/
def headAloneUptoRow : OpenClaim := { program := "ytnhelkclkdfndaadoor", sum := "313939266842d0334cdc2cb7fab452338f3dea41cecb90de21b410187bbbec50", func := "warren/warrenlaw19.HeadAlone", spec := "headAlone", inPlace := ["internal/reflectlite.ValueOf", "(internal/reflectlite.Value).Type", "(internal/reflectlite.Value).IsNil", "internal/reflectlite.TypeOf", "(internal/reflectlite.Value).Elem", "(internal/reflectlite.Value).Set"], unfollowed := true, recurses := true, named := ["errors.errorType"], apart := false, laid := [("errors.errorType", laid_errors_errorType)], narrowed := true }
def HeadAloneUptoSaid : Prop := headAloneUptoRow.holds Tryd.pinned (OpenSpec.upto headAloneSpec)

/-- 'warrenlaw29.ForestTells', WHERE WHAT IT READS IS OF BULK AT MOST 1048576: true; the input reads as it did. -/
def forestTellsUptoRow : OpenClaim := { program := "ytnhelkclkdfndaadoor", sum := "313939266842d0334cdc2cb7fab452338f3dea41cecb90de21b410187bbbec50", func := "warren/warrenlaw29.ForestTells", spec := "forestTells", inPlace := ["internal/reflectlite.ValueOf", "(internal/reflectlite.Value).Type", "(internal/reflectlite.Value).IsNil", "internal/reflectlite.TypeOf", "(internal/reflectlite.Value).Elem", "(internal/reflectlite.Value).Set"], unfollowed := true, recurses := true, named := ["errors.errorType"], apart := false, laid := [("errors.errorType", laid_errors_errorType)], narrowed := true }
def ForestTellsUptoSaid : Prop := forestTellsUptoRow.holds Tryd.pinned (OpenSpec.upto forestTellsSpec)

/-- 'warrenlaw29.ForestGiven', WHERE WHAT IT READS IS OF BULK AT MOST 1048576: true; the input reads as it did. -/
def forestGivenUptoRow : OpenClaim := { program := "ytnhelkclkdfndaadoor", sum := "313939266842d0334cdc2cb7fab452338f3dea41cecb90de21b410187bbbec50", func := "warren/warrenlaw29.ForestGiven", spec := "forestGiven", inPlace := ["internal/reflectlite.ValueOf", "(internal/reflectlite.Value).Type", "(internal/reflectlite.Value).IsNil", "internal/reflectlite.TypeOf", "(internal/reflectlite.Value).Elem", "(internal/reflectlite.Value).Set"], unfollowed := true, recurses := true, named := ["errors.errorType"], apart := false, laid := [("errors.errorType", laid_errors_errorType)], narrowed := true }
def ForestGivenUptoSaid : Prop := forestGivenUptoRow.holds Tryd.pinned (OpenSpec.upto forestGivenSpec)

/-- 'warrenlaw29.ForestCounts', WHERE WHAT IT READS IS OF BULK AT MOST 1048576: true; the input reads as it did. -/
def forestCountsUptoRow : OpenClaim := { program := "ytnhelkclkdfndaadoor", sum := "313939266842d0334cdc2cb7fab452338f3dea41cecb90de21b410187bbbec50", func := "warren/warrenlaw29.ForestCounts", spec := "forestCounts", inPlace := ["internal/reflectlite.ValueOf", "(internal/reflectlite.Value).Type", "(internal/reflectlite.Value).IsNil", "internal/reflectlite.TypeOf", "(internal/reflectlite.Value).Elem", "(internal/reflectlite.Value).Set"], unfollowed := true, recurses := true, named := ["errors.errorType"], apart := false, laid := [("errors.errorType", laid_errors_errorType)], narrowed := true }
def ForestCountsUptoSaid : Prop := forestCountsUptoRow.holds Tryd.pinned (OpenSpec.upto forestCountsSpec)

/-- 'warrenlaw09.BranchForms', WHERE WHAT IT READS IS OF BULK AT MOST 1048576: true; the input reads as it did. -/
def branchFormsUptoRow : OpenClaim := { program := "ytnhelkclkdfndaadoor", sum := "313939266842d0334cdc2cb7fab452338f3dea41cecb90de21b410187bbbec50", func := "warren/warrenlaw09.BranchForms", spec := "branchForms", inPlace := ["internal/reflectlite.ValueOf", "(internal/reflectlite.Value).Type", "(internal/reflectlite.Value).IsNil", "internal/reflectlite.TypeOf", "(internal/reflectlite.Value).Elem", "(internal/reflectlite.Value).Set"], unfollowed := true, recurses := true, named := ["errors.errorType"], apart := false, laid := [("errors.errorType", laid_errors_errorType)], narrowed := true }
def BranchFormsUptoSaid : Prop := branchFormsUptoRow.holds Tryd.pinned (OpenSpec.upto branchFormsSpec)

/-- 'warrenlaw09.BranchBack', WHERE WHAT IT READS IS OF BULK AT MOST 1048576: true; the input reads as it did. -/
def branchBackUptoRow : OpenClaim := { program := "ytnhelkclkdfndaadoor", sum := "313939266842d0334cdc2cb7fab452338f3dea41cecb90de21b410187bbbec50", func := "warren/warrenlaw09.BranchBack", spec := "branchBack", inPlace := ["internal/reflectlite.ValueOf", "(internal/reflectlite.Value).Type", "(internal/reflectlite.Value).IsNil", "internal/reflectlite.TypeOf", "(internal/reflectlite.Value).Elem", "(internal/reflectlite.Value).Set"], unfollowed := true, recurses := true, named := ["errors.errorType"], apart := false, laid := [("errors.errorType", laid_errors_errorType)], narrowed := true }
def BranchBackUptoSaid : Prop := branchBackUptoRow.holds Tryd.pinned (OpenSpec.upto branchBackSpec)

end Rows
end Go.Proofs.YtnhelkclkdfndaaDoor
