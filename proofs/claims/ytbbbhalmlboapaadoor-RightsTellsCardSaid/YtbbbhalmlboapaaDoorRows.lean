/-
  NARROWER THAN 'FOR EVERY INPUT', by the rows' own cells (each row's printed sentence says how): RightsTells: laid · RightsBack: laid · MatrixTells: laid · MatrixParts: laid · MatrixLeaves: laid · BitsetTells: laid · BitsetTakes: laid · BitsetParts: laid · SheetForms: laid · SheetBack: laid · SheetApart: laid.
  DERIVED. THE GIVEN ROWS OF THIS SEAT. 11 by the template 'for every input the law returns true; each argument reads behind the call as it read before'; 0 by the template 'total and deterministic' (their statements: YtbbbhalmlboapaaDoorTotals.lean).
  GIVEN WITH THE SEED: the statements are not yours to turn. If you find one false, say at which input.
  Laid BY PROGRAM, IN A SANDBOX (cutbox-rows.mjs): the forced cells as the released guide's own fill.sh prints them over the translation 819a31616e9d75bb… (all of the seat's roots in one cut). By AI agents, Wed Nov 11 2026. No macro, syntax, notation, axiom, sorry.
-/
import Derived.Test.YtbbbhalmlboapaaDoorChecked
import GoSem.Claim
import GoSem.ClaimJoined
import GoSem.ClaimMapViews
import Derived.JoinedTies
import Derived.KernelRfl
namespace Go.Proofs.YtbbbhalmlboapaaDoor
/- THE CELL 'sum', in the pinned program and in every row, IS THE sha256 OF THE DUMP (.gsa) THAT YtbbbhalmlboapaaDoorProg.lean LOADS. Nothing in Lean hashes anything: it is a label: what it is worth is what the hold of that sum in a sandbox is worth. -/
noncomputable def Tryd.pinned : Pinned := { name := "ytbbbhalmlboapaadoor", sum := "819a31616e9d75bb480f7529adcbe4502e6788a8e41f27d435aec71c38f0ca44", checked := Tryd.checked }
namespace Rows
def none {H : Type} : Left H := { results := [], args := [] }

/- WHAT THE LISTED PACKAGE-LEVEL VARIABLES READ AS WHEN THE CALL BEGINS. Each datum BY PROGRAM (the guide's laid-datum.mjs) off the statement by which the dump's own 'gosem.cut.vars' lays the variable. In a bare row this is a premise. The card (YtbbbhalmlboapaaDoorCards.lean) ties it to the program's text. -/
def laid_errors_errorType {H : Type} : DataW H := .iface "internal/reflectlite.rtype" (.agg [.ptr (.lit (.string [101, 114, 114, 111, 114]))])

/-- 'warrenlaw26.RightsTells': WHATEVER THE INPUT: true; the input reads as it did. -/
def rightsTellsSpec : ChangeSpec := { name := "rightsTells", fn := fun _ => fun
  | [d1, d2, d3] => { results := [.lit (.bool true)], args := [d1, d2, d3] }
  | _ => none }
def rightsTellsRow : OpenClaim := { program := "ytbbbhalmlboapaadoor", sum := "819a31616e9d75bb480f7529adcbe4502e6788a8e41f27d435aec71c38f0ca44", func := "warren/warrenlaw26.RightsTells", spec := "rightsTells", inPlace := ["internal/abi.NoEscape", "internal/bytealg.IndexByteString", "internal/reflectlite.ValueOf", "(internal/reflectlite.Value).Type", "(internal/reflectlite.Value).IsNil", "internal/reflectlite.TypeOf", "(internal/reflectlite.Value).Elem", "(internal/reflectlite.Value).Set"], unfollowed := true, recurses := true, named := ["errors.errorType"], apart := false, laid := [("errors.errorType", laid_errors_errorType)] }
def RightsTellsSaid : Prop := rightsTellsRow.holds Tryd.pinned (OpenSpec.ofChange rightsTellsSpec)

/-- ITS FALSE NEIGHBOUR: 'it returns false'. Refute it at one input. -/
def rightsTellsWrong : ChangeSpec := { name := "rightsTells", fn := fun _ => fun
  | [d1, d2, d3] => { results := [.lit (.bool false)], args := [d1, d2, d3] }
  | _ => none }
def RightsTellsWrongFalsely : Prop := rightsTellsRow.holds Tryd.pinned (OpenSpec.ofChange rightsTellsWrong)

/-- 'warrenlaw26.RightsBack': WHATEVER THE INPUT: true; the input reads as it did. -/
def rightsBackSpec : ChangeSpec := { name := "rightsBack", fn := fun _ => fun
  | [d1, d2] => { results := [.lit (.bool true)], args := [d1, d2] }
  | _ => none }
def rightsBackRow : OpenClaim := { program := "ytbbbhalmlboapaadoor", sum := "819a31616e9d75bb480f7529adcbe4502e6788a8e41f27d435aec71c38f0ca44", func := "warren/warrenlaw26.RightsBack", spec := "rightsBack", inPlace := ["internal/abi.NoEscape", "internal/bytealg.IndexByteString", "internal/reflectlite.ValueOf", "(internal/reflectlite.Value).Type", "(internal/reflectlite.Value).IsNil", "internal/reflectlite.TypeOf", "(internal/reflectlite.Value).Elem", "(internal/reflectlite.Value).Set"], unfollowed := true, recurses := true, named := ["errors.errorType"], apart := false, laid := [("errors.errorType", laid_errors_errorType)] }
def RightsBackSaid : Prop := rightsBackRow.holds Tryd.pinned (OpenSpec.ofChange rightsBackSpec)

/-- ITS FALSE NEIGHBOUR: 'it returns false'. Refute it at one input. -/
def rightsBackWrong : ChangeSpec := { name := "rightsBack", fn := fun _ => fun
  | [d1, d2] => { results := [.lit (.bool false)], args := [d1, d2] }
  | _ => none }
def RightsBackWrongFalsely : Prop := rightsBackRow.holds Tryd.pinned (OpenSpec.ofChange rightsBackWrong)

/-- 'warrenlaw31.MatrixTells': WHATEVER THE INPUT: true; the input reads as it did. -/
def matrixTellsSpec : ChangeSpec := { name := "matrixTells", fn := fun _ => fun
  | [d1, d2, d3] => { results := [.lit (.bool true)], args := [d1, d2, d3] }
  | _ => none }
def matrixTellsRow : OpenClaim := { program := "ytbbbhalmlboapaadoor", sum := "819a31616e9d75bb480f7529adcbe4502e6788a8e41f27d435aec71c38f0ca44", func := "warren/warrenlaw31.MatrixTells", spec := "matrixTells", inPlace := ["internal/reflectlite.ValueOf", "(internal/reflectlite.Value).Type", "(internal/reflectlite.Value).IsNil", "internal/reflectlite.TypeOf", "(internal/reflectlite.Value).Elem", "(internal/reflectlite.Value).Set"], unfollowed := true, recurses := true, named := ["errors.errorType"], apart := false, laid := [("errors.errorType", laid_errors_errorType)] }
def MatrixTellsSaid : Prop := matrixTellsRow.holds Tryd.pinned (OpenSpec.ofChange matrixTellsSpec)

/-- ITS FALSE NEIGHBOUR: 'it returns false'. Refute it at one input. -/
def matrixTellsWrong : ChangeSpec := { name := "matrixTells", fn := fun _ => fun
  | [d1, d2, d3] => { results := [.lit (.bool false)], args := [d1, d2, d3] }
  | _ => none }
def MatrixTellsWrongFalsely : Prop := matrixTellsRow.holds Tryd.pinned (OpenSpec.ofChange matrixTellsWrong)

/-- 'warrenlaw31.MatrixParts': WHATEVER THE INPUT: true; the input reads as it did. -/
def matrixPartsSpec : ChangeSpec := { name := "matrixParts", fn := fun _ => fun
  | [d] => { results := [.lit (.bool true)], args := [d] }
  | _ => none }
def matrixPartsRow : OpenClaim := { program := "ytbbbhalmlboapaadoor", sum := "819a31616e9d75bb480f7529adcbe4502e6788a8e41f27d435aec71c38f0ca44", func := "warren/warrenlaw31.MatrixParts", spec := "matrixParts", inPlace := ["internal/reflectlite.ValueOf", "(internal/reflectlite.Value).Type", "(internal/reflectlite.Value).IsNil", "internal/reflectlite.TypeOf", "(internal/reflectlite.Value).Elem", "(internal/reflectlite.Value).Set"], unfollowed := true, recurses := true, named := ["errors.errorType"], apart := false, laid := [("errors.errorType", laid_errors_errorType)] }
def MatrixPartsSaid : Prop := matrixPartsRow.holds Tryd.pinned (OpenSpec.ofChange matrixPartsSpec)

/-- ITS FALSE NEIGHBOUR: 'it returns false'. Refute it at one input. -/
def matrixPartsWrong : ChangeSpec := { name := "matrixParts", fn := fun _ => fun
  | [d] => { results := [.lit (.bool false)], args := [d] }
  | _ => none }
def MatrixPartsWrongFalsely : Prop := matrixPartsRow.holds Tryd.pinned (OpenSpec.ofChange matrixPartsWrong)

/-- 'warrenlaw31.MatrixLeaves': WHATEVER THE INPUT: true; the input reads as it did. -/
def matrixLeavesSpec : ChangeSpec := { name := "matrixLeaves", fn := fun _ => fun
  | [d1, d2, d3] => { results := [.lit (.bool true)], args := [d1, d2, d3] }
  | _ => none }
def matrixLeavesRow : OpenClaim := { program := "ytbbbhalmlboapaadoor", sum := "819a31616e9d75bb480f7529adcbe4502e6788a8e41f27d435aec71c38f0ca44", func := "warren/warrenlaw31.MatrixLeaves", spec := "matrixLeaves", inPlace := ["internal/reflectlite.ValueOf", "(internal/reflectlite.Value).Type", "(internal/reflectlite.Value).IsNil", "internal/reflectlite.TypeOf", "(internal/reflectlite.Value).Elem", "(internal/reflectlite.Value).Set"], unfollowed := true, recurses := true, named := ["errors.errorType"], apart := false, laid := [("errors.errorType", laid_errors_errorType)] }
def MatrixLeavesSaid : Prop := matrixLeavesRow.holds Tryd.pinned (OpenSpec.ofChange matrixLeavesSpec)

/-- ITS FALSE NEIGHBOUR: 'it returns false'. Refute it at one input. -/
def matrixLeavesWrong : ChangeSpec := { name := "matrixLeaves", fn := fun _ => fun
  | [d1, d2, d3] => { results := [.lit (.bool false)], args := [d1, d2, d3] }
  | _ => none }
def MatrixLeavesWrongFalsely : Prop := matrixLeavesRow.holds Tryd.pinned (OpenSpec.ofChange matrixLeavesWrong)

/-- 'warrenlaw17.BitsetTells': WHATEVER THE INPUT: true; the input reads as it did. -/
def bitsetTellsSpec : ChangeSpec := { name := "bitsetTells", fn := fun _ => fun
  | [d1, d2, d3] => { results := [.lit (.bool true)], args := [d1, d2, d3] }
  | _ => none }
def bitsetTellsRow : OpenClaim := { program := "ytbbbhalmlboapaadoor", sum := "819a31616e9d75bb480f7529adcbe4502e6788a8e41f27d435aec71c38f0ca44", func := "warren/warrenlaw17.BitsetTells", spec := "bitsetTells", inPlace := ["internal/reflectlite.ValueOf", "(internal/reflectlite.Value).Type", "(internal/reflectlite.Value).IsNil", "internal/reflectlite.TypeOf", "(internal/reflectlite.Value).Elem", "(internal/reflectlite.Value).Set"], unfollowed := true, recurses := true, named := ["errors.errorType"], apart := false, laid := [("errors.errorType", laid_errors_errorType)] }
def BitsetTellsSaid : Prop := bitsetTellsRow.holds Tryd.pinned (OpenSpec.ofChange bitsetTellsSpec)

/-- ITS FALSE NEIGHBOUR: 'it returns false'. Refute it at one input. -/
def bitsetTellsWrong : ChangeSpec := { name := "bitsetTells", fn := fun _ => fun
  | [d1, d2, d3] => { results := [.lit (.bool false)], args := [d1, d2, d3] }
  | _ => none }
def BitsetTellsWrongFalsely : Prop := bitsetTellsRow.holds Tryd.pinned (OpenSpec.ofChange bitsetTellsWrong)

/-- 'warrenlaw17.BitsetTakes': WHATEVER THE INPUT: true; the input reads as it did. -/
def bitsetTakesSpec : ChangeSpec := { name := "bitsetTakes", fn := fun _ => fun
  | [d1, d2, d3] => { results := [.lit (.bool true)], args := [d1, d2, d3] }
  | _ => none }
def bitsetTakesRow : OpenClaim := { program := "ytbbbhalmlboapaadoor", sum := "819a31616e9d75bb480f7529adcbe4502e6788a8e41f27d435aec71c38f0ca44", func := "warren/warrenlaw17.BitsetTakes", spec := "bitsetTakes", inPlace := ["internal/reflectlite.ValueOf", "(internal/reflectlite.Value).Type", "(internal/reflectlite.Value).IsNil", "internal/reflectlite.TypeOf", "(internal/reflectlite.Value).Elem", "(internal/reflectlite.Value).Set"], unfollowed := true, recurses := true, named := ["errors.errorType"], apart := false, laid := [("errors.errorType", laid_errors_errorType)] }
def BitsetTakesSaid : Prop := bitsetTakesRow.holds Tryd.pinned (OpenSpec.ofChange bitsetTakesSpec)

/-- ITS FALSE NEIGHBOUR: 'it returns false'. Refute it at one input. -/
def bitsetTakesWrong : ChangeSpec := { name := "bitsetTakes", fn := fun _ => fun
  | [d1, d2, d3] => { results := [.lit (.bool false)], args := [d1, d2, d3] }
  | _ => none }
def BitsetTakesWrongFalsely : Prop := bitsetTakesRow.holds Tryd.pinned (OpenSpec.ofChange bitsetTakesWrong)

/-- 'warrenlaw17.BitsetParts': WHATEVER THE INPUT: true; the input reads as it did. -/
def bitsetPartsSpec : ChangeSpec := { name := "bitsetParts", fn := fun _ => fun
  | [d1, d2, d3] => { results := [.lit (.bool true)], args := [d1, d2, d3] }
  | _ => none }
def bitsetPartsRow : OpenClaim := { program := "ytbbbhalmlboapaadoor", sum := "819a31616e9d75bb480f7529adcbe4502e6788a8e41f27d435aec71c38f0ca44", func := "warren/warrenlaw17.BitsetParts", spec := "bitsetParts", inPlace := ["internal/reflectlite.ValueOf", "(internal/reflectlite.Value).Type", "(internal/reflectlite.Value).IsNil", "internal/reflectlite.TypeOf", "(internal/reflectlite.Value).Elem", "(internal/reflectlite.Value).Set"], unfollowed := true, recurses := true, named := ["errors.errorType"], apart := false, laid := [("errors.errorType", laid_errors_errorType)] }
def BitsetPartsSaid : Prop := bitsetPartsRow.holds Tryd.pinned (OpenSpec.ofChange bitsetPartsSpec)

/-- ITS FALSE NEIGHBOUR: 'it returns false'. Refute it at one input. -/
def bitsetPartsWrong : ChangeSpec := { name := "bitsetParts", fn := fun _ => fun
  | [d1, d2, d3] => { results := [.lit (.bool false)], args := [d1, d2, d3] }
  | _ => none }
def BitsetPartsWrongFalsely : Prop := bitsetPartsRow.holds Tryd.pinned (OpenSpec.ofChange bitsetPartsWrong)

/-- 'warrenlaw05.SheetForms': WHATEVER THE INPUT: true; the input reads as it did. -/
def sheetFormsSpec : ChangeSpec := { name := "sheetForms", fn := fun _ => fun
  | [d1, d2, d3] => { results := [.lit (.bool true)], args := [d1, d2, d3] }
  | _ => none }
def sheetFormsRow : OpenClaim := { program := "ytbbbhalmlboapaadoor", sum := "819a31616e9d75bb480f7529adcbe4502e6788a8e41f27d435aec71c38f0ca44", func := "warren/warrenlaw05.SheetForms", spec := "sheetForms", inPlace := ["internal/reflectlite.ValueOf", "(internal/reflectlite.Value).Type", "(internal/reflectlite.Value).IsNil", "internal/reflectlite.TypeOf", "(internal/reflectlite.Value).Elem", "(internal/reflectlite.Value).Set"], unfollowed := true, recurses := true, named := ["errors.errorType"], apart := false, laid := [("errors.errorType", laid_errors_errorType)] }
def SheetFormsSaid : Prop := sheetFormsRow.holds Tryd.pinned (OpenSpec.ofChange sheetFormsSpec)

/-- ITS FALSE NEIGHBOUR: 'it returns false'. Refute it at one input. -/
def sheetFormsWrong : ChangeSpec := { name := "sheetForms", fn := fun _ => fun
  | [d1, d2, d3] => { results := [.lit (.bool false)], args := [d1, d2, d3] }
  | _ => none }
def SheetFormsWrongFalsely : Prop := sheetFormsRow.holds Tryd.pinned (OpenSpec.ofChange sheetFormsWrong)

/-- 'warrenlaw05.SheetBack': WHATEVER THE INPUT: true; the input reads as it did. -/
def sheetBackSpec : ChangeSpec := { name := "sheetBack", fn := fun _ => fun
  | [d1, d2, d3] => { results := [.lit (.bool true)], args := [d1, d2, d3] }
  | _ => none }
def sheetBackRow : OpenClaim := { program := "ytbbbhalmlboapaadoor", sum := "819a31616e9d75bb480f7529adcbe4502e6788a8e41f27d435aec71c38f0ca44", func := "warren/warrenlaw05.SheetBack", spec := "sheetBack", inPlace := ["internal/reflectlite.ValueOf", "(internal/reflectlite.Value).Type", "(internal/reflectlite.Value).IsNil", "internal/reflectlite.TypeOf", "(internal/reflectlite.Value).Elem", "(internal/reflectlite.Value).Set"], unfollowed := true, recurses := true, named := ["errors.errorType"], apart := false, laid := [("errors.errorType", laid_errors_errorType)] }
def SheetBackSaid : Prop := sheetBackRow.holds Tryd.pinned (OpenSpec.ofChange sheetBackSpec)

/-- ITS FALSE NEIGHBOUR: 'it returns false'. Refute it at one input. -/
def sheetBackWrong : ChangeSpec := { name := "sheetBack", fn := fun _ => fun
  | [d1, d2, d3] => { results := [.lit (.bool false)], args := [d1, d2, d3] }
  | _ => none }
def SheetBackWrongFalsely : Prop := sheetBackRow.holds Tryd.pinned (OpenSpec.ofChange sheetBackWrong)

/-- 'warrenlaw05.SheetApart': WHATEVER THE INPUT: true; the input reads as it did. -/
def sheetApartSpec : ChangeSpec := { name := "sheetApart", fn := fun _ => fun
  | [d1, d2, d3] => { results := [.lit (.bool true)], args := [d1, d2, d3] }
  | _ => none }
def sheetApartRow : OpenClaim := { program := "ytbbbhalmlboapaadoor", sum := "819a31616e9d75bb480f7529adcbe4502e6788a8e41f27d435aec71c38f0ca44", func := "warren/warrenlaw05.SheetApart", spec := "sheetApart", inPlace := ["internal/reflectlite.ValueOf", "(internal/reflectlite.Value).Type", "(internal/reflectlite.Value).IsNil", "internal/reflectlite.TypeOf", "(internal/reflectlite.Value).Elem", "(internal/reflectlite.Value).Set"], unfollowed := true, recurses := true, named := ["errors.errorType"], apart := false, laid := [("errors.errorType", laid_errors_errorType)] }
def SheetApartSaid : Prop := sheetApartRow.holds Tryd.pinned (OpenSpec.ofChange sheetApartSpec)

/-- ITS FALSE NEIGHBOUR: 'it returns false'. Refute it at one input. -/
def sheetApartWrong : ChangeSpec := { name := "sheetApart", fn := fun _ => fun
  | [d1, d2, d3] => { results := [.lit (.bool false)], args := [d1, d2, d3] }
  | _ => none }
def SheetApartWrongFalsely : Prop := sheetApartRow.holds Tryd.pinned (OpenSpec.ofChange sheetApartWrong)

/- THE SECOND FORM. 'bulk': how many values and letters a reading holds, each counted each time it is reached (what is shared counts as often as it is met; a slice's spare places count too). A statement '..UptoSaid' is the law's where the arguments, and the package variables that the reading takes, are together of bulk at most 1048576: NARROWER than '..Said'. Prove '..Said' where nothing that the law and all that it calls make is longer than what came in: it says more and counts as full. Else prove '..UptoSaid'. A law counts once. -/
mutual
def uptoBulk {H : Type} : DataW H → Nat
  | .lit (.string bytes) => bytes.length + 1
  | .lit _ => 1
  | .nil => 1
  | .ptr d => uptoBulk d + 1
  | .slice elems spare => uptoBulkAll elems + uptoBulkAll spare + 1
  | .agg parts => uptoBulkAll parts + 1
  | .iface _ d => uptoBulk d + 1
  | .map entries => uptoBulkEntries entries + 1
  | .held _ => 1
def uptoBulkAll {H : Type} : List (DataW H) → Nat
  | [] => 0
  | d :: r => uptoBulk d + uptoBulkAll r
def uptoBulkEntries {H : Type} : List (Lit × DataW H) → Nat
  | [] => 0
  | x :: r => uptoBulkEntry x + uptoBulkEntries r
def uptoBulkEntry {H : Type} : Lit × DataW H → Nat
  | (.string bytes, d) => bytes.length + uptoBulk d + 1
  | (_, d) => uptoBulk d + 1
 end
def uptoSmall : (H : Type) → List (DataW H) → Bool := fun _ ds => decide (uptoBulkAll ds ≤ 1048576)
def OpenSpec.upto (s : _root_.Go.ChangeSpec) : _root_.Go.OpenSpec := { _root_.Go.OpenSpec.ofChange s with cond := some uptoSmall }

/-- 'warrenlaw26.RightsTells', WHERE WHAT IT READS IS OF BULK AT MOST 1048576: true; the input reads as it did. -/
def rightsTellsUptoRow : OpenClaim := { program := "ytbbbhalmlboapaadoor", sum := "819a31616e9d75bb480f7529adcbe4502e6788a8e41f27d435aec71c38f0ca44", func := "warren/warrenlaw26.RightsTells", spec := "rightsTells", inPlace := ["internal/abi.NoEscape", "internal/bytealg.IndexByteString", "internal/reflectlite.ValueOf", "(internal/reflectlite.Value).Type", "(internal/reflectlite.Value).IsNil", "internal/reflectlite.TypeOf", "(internal/reflectlite.Value).Elem", "(internal/reflectlite.Value).Set"], unfollowed := true, recurses := true, named := ["errors.errorType"], apart := false, laid := [("errors.errorType", laid_errors_errorType)], narrowed := true }
def RightsTellsUptoSaid : Prop := rightsTellsUptoRow.holds Tryd.pinned (OpenSpec.upto rightsTellsSpec)

/-- 'warrenlaw26.RightsBack', WHERE WHAT IT READS IS OF BULK AT MOST 1048576: true; the input reads as it did. -/
def rightsBackUptoRow : OpenClaim := { program := "ytbbbhalmlboapaadoor", sum := "819a31616e9d75bb480f7529adcbe4502e6788a8e41f27d435aec71c38f0ca44", func := "warren/warrenlaw26.RightsBack", spec := "rightsBack", inPlace := ["internal/abi.NoEscape", "internal/bytealg.IndexByteString", "internal/reflectlite.ValueOf", "(internal/reflectlite.Value).Type", "(internal/reflectlite.Value).IsNil", "internal/reflectlite.TypeOf", "(internal/reflectlite.Value).Elem", "(internal/reflectlite.Value).Set"], unfollowed := true, recurses := true, named := ["errors.errorType"], apart := false, laid := [("errors.errorType", laid_errors_errorType)], narrowed := true }
def RightsBackUptoSaid : Prop := rightsBackUptoRow.holds Tryd.pinned (OpenSpec.upto rightsBackSpec)

/-- 'warrenlaw31.MatrixTells', WHERE WHAT IT READS IS OF BULK AT MOST 1048576: true; the input reads as it did. -/
def matrixTellsUptoRow : OpenClaim := { program := "ytbbbhalmlboapaadoor", sum := "819a31616e9d75bb480f7529adcbe4502e6788a8e41f27d435aec71c38f0ca44", func := "warren/warrenlaw31.MatrixTells", spec := "matrixTells", inPlace := ["internal/reflectlite.ValueOf", "(internal/reflectlite.Value).Type", "(internal/reflectlite.Value).IsNil", "internal/reflectlite.TypeOf", "(internal/reflectlite.Value).Elem", "(internal/reflectlite.Value).Set"], unfollowed := true, recurses := true, named := ["errors.errorType"], apart := false, laid := [("errors.errorType", laid_errors_errorType)], narrowed := true }
def MatrixTellsUptoSaid : Prop := matrixTellsUptoRow.holds Tryd.pinned (OpenSpec.upto matrixTellsSpec)

/-- 'warrenlaw31.MatrixParts', WHERE WHAT IT READS IS OF BULK AT MOST 1048576: true; the input reads as it did. -/
def matrixPartsUptoRow : OpenClaim := { program := "ytbbbhalmlboapaadoor", sum := "819a31616e9d75bb480f7529adcbe4502e6788a8e41f27d435aec71c38f0ca44", func := "warren/warrenlaw31.MatrixParts", spec := "matrixParts", inPlace := ["internal/reflectlite.ValueOf", "(internal/reflectlite.Value).Type", "(internal/reflectlite.Value).IsNil", "internal/reflectlite.TypeOf", "(internal/reflectlite.Value).Elem", "(internal/reflectlite.Value).Set"], unfollowed := true, recurses := true, named := ["errors.errorType"], apart := false, laid := [("errors.errorType", laid_errors_errorType)], narrowed := true }
def MatrixPartsUptoSaid : Prop := matrixPartsUptoRow.holds Tryd.pinned (OpenSpec.upto matrixPartsSpec)

/-- 'warrenlaw31.MatrixLeaves', WHERE WHAT IT READS IS OF BULK AT MOST 1048576: true; the input reads as it did. -/
def matrixLeavesUptoRow : OpenClaim := { program := "ytbbbhalmlboapaadoor", sum := "819a31616e9d75bb480f7529adcbe4502e6788a8e41f27d435aec71c38f0ca44", func := "warren/warrenlaw31.MatrixLeaves", spec := "matrixLeaves", inPlace := ["internal/reflectlite.ValueOf", "(internal/reflectlite.Value).Type", "(internal/reflectlite.Value).IsNil", "internal/reflectlite.TypeOf", "(internal/reflectlite.Value).Elem", "(internal/reflectlite.Value).Set"], unfollowed := true, recurses := true, named := ["errors.errorType"], apart := false, laid := [("errors.errorType", laid_errors_errorType)], narrowed := true }
def MatrixLeavesUptoSaid : Prop := matrixLeavesUptoRow.holds Tryd.pinned (OpenSpec.upto matrixLeavesSpec)

/-- 'warrenlaw17.BitsetTells', WHERE WHAT IT READS IS OF BULK AT MOST 1048576: true; the input reads as it did. -/
def bitsetTellsUptoRow : OpenClaim := { program := "ytbbbhalmlboapaadoor", sum := "819a31616e9d75bb480f7529adcbe4502e6788a8e41f27d435aec71c38f0ca44", func := "warren/warrenlaw17.BitsetTells", spec := "bitsetTells", inPlace := ["internal/reflectlite.ValueOf", "(internal/reflectlite.Value).Type", "(internal/reflectlite.Value).IsNil", "internal/reflectlite.TypeOf", "(internal/reflectlite.Value).Elem", "(internal/reflectlite.Value).Set"], unfollowed := true, recurses := true, named := ["errors.errorType"], apart := false, laid := [("errors.errorType", laid_errors_errorType)], narrowed := true }
def BitsetTellsUptoSaid : Prop := bitsetTellsUptoRow.holds Tryd.pinned (OpenSpec.upto bitsetTellsSpec)

/-- 'warrenlaw17.BitsetTakes', WHERE WHAT IT READS IS OF BULK AT MOST 1048576: true; the input reads as it did. -/
def bitsetTakesUptoRow : OpenClaim := { program := "ytbbbhalmlboapaadoor", sum := "819a31616e9d75bb480f7529adcbe4502e6788a8e41f27d435aec71c38f0ca44", func := "warren/warrenlaw17.BitsetTakes", spec := "bitsetTakes", inPlace := ["internal/reflectlite.ValueOf", "(internal/reflectlite.Value).Type", "(internal/reflectlite.Value).IsNil", "internal/reflectlite.TypeOf", "(internal/reflectlite.Value).Elem", "(internal/reflectlite.Value).Set"], unfollowed := true, recurses := true, named := ["errors.errorType"], apart := false, laid := [("errors.errorType", laid_errors_errorType)], narrowed := true }
def BitsetTakesUptoSaid : Prop := bitsetTakesUptoRow.holds Tryd.pinned (OpenSpec.upto bitsetTakesSpec)

/-- 'warrenlaw17.BitsetParts', WHERE WHAT IT READS IS OF BULK AT MOST 1048576: true; the input reads as it did. -/
def bitsetPartsUptoRow : OpenClaim := { program := "ytbbbhalmlboapaadoor", sum := "819a31616e9d75bb480f7529adcbe4502e6788a8e41f27d435aec71c38f0ca44", func := "warren/warrenlaw17.BitsetParts", spec := "bitsetParts", inPlace := ["internal/reflectlite.ValueOf", "(internal/reflectlite.Value).Type", "(internal/reflectlite.Value).IsNil", "internal/reflectlite.TypeOf", "(internal/reflectlite.Value).Elem", "(internal/reflectlite.Value).Set"], unfollowed := true, recurses := true, named := ["errors.errorType"], apart := false, laid := [("errors.errorType", laid_errors_errorType)], narrowed := true }
def BitsetPartsUptoSaid : Prop := bitsetPartsUptoRow.holds Tryd.pinned (OpenSpec.upto bitsetPartsSpec)

/-- 'warrenlaw05.SheetForms', WHERE WHAT IT READS IS OF BULK AT MOST 1048576: true; the input reads as it did. -/
def sheetFormsUptoRow : OpenClaim := { program := "ytbbbhalmlboapaadoor", sum := "819a31616e9d75bb480f7529adcbe4502e6788a8e41f27d435aec71c38f0ca44", func := "warren/warrenlaw05.SheetForms", spec := "sheetForms", inPlace := ["internal/reflectlite.ValueOf", "(internal/reflectlite.Value).Type", "(internal/reflectlite.Value).IsNil", "internal/reflectlite.TypeOf", "(internal/reflectlite.Value).Elem", "(internal/reflectlite.Value).Set"], unfollowed := true, recurses := true, named := ["errors.errorType"], apart := false, laid := [("errors.errorType", laid_errors_errorType)], narrowed := true }
def SheetFormsUptoSaid : Prop := sheetFormsUptoRow.holds Tryd.pinned (OpenSpec.upto sheetFormsSpec)

/-- 'warrenlaw05.SheetBack', WHERE WHAT IT READS IS OF BULK AT MOST 1048576: true; the input reads as it did. -/
def sheetBackUptoRow : OpenClaim := { program := "ytbbbhalmlboapaadoor", sum := "819a31616e9d75bb480f7529adcbe4502e6788a8e41f27d435aec71c38f0ca44", func := "warren/warrenlaw05.SheetBack", spec := "sheetBack", inPlace := ["internal/reflectlite.ValueOf", "(internal/reflectlite.Value).Type", "(internal/reflectlite.Value).IsNil", "internal/reflectlite.TypeOf", "(internal/reflectlite.Value).Elem", "(internal/reflectlite.Value).Set"], unfollowed := true, recurses := true, named := ["errors.errorType"], apart := false, laid := [("errors.errorType", laid_errors_errorType)], narrowed := true }
def SheetBackUptoSaid : Prop := sheetBackUptoRow.holds Tryd.pinned (OpenSpec.upto sheetBackSpec)

/-- 'warrenlaw05.SheetApart', WHERE WHAT IT READS IS OF BULK AT MOST 1048576: true; the input reads as it did. -/
def sheetApartUptoRow : OpenClaim := { program := "ytbbbhalmlboapaadoor", sum := "819a31616e9d75bb480f7529adcbe4502e6788a8e41f27d435aec71c38f0ca44", func := "warren/warrenlaw05.SheetApart", spec := "sheetApart", inPlace := ["internal/reflectlite.ValueOf", "(internal/reflectlite.Value).Type", "(internal/reflectlite.Value).IsNil", "internal/reflectlite.TypeOf", "(internal/reflectlite.Value).Elem", "(internal/reflectlite.Value).Set"], unfollowed := true, recurses := true, named := ["errors.errorType"], apart := false, laid := [("errors.errorType", laid_errors_errorType)], narrowed := true }
def SheetApartUptoSaid : Prop := sheetApartUptoRow.holds Tryd.pinned (OpenSpec.upto sheetApartSpec)

end Rows
end Go.Proofs.YtbbbhalmlboapaaDoor
