/-
Layer 17: the callees, all at once; arguments.
-/
import Derived.Test.YtbbbhalmlboapaaDoorBH
import Derived.Test.YtbbbhalmlboapaaDoorXQ
import Derived.Test.YtbbbhalmlboapaaDoorNE
namespace Go.Proofs.YtbbbhalmlboapaaDoor.V
open Go Go.RowKit
set_option linter.unusedSimpArgs false
set_option linter.unusedVariables false

theorem tabOk {c : Cx} (hP : c.P = Tryd.prog) : TabOk c.P T := by rw [hP]; exact tabOf_ok _

noncomputable def tab17 : FuncId → Option FI
  | 71 => some fi71
  | 72 => some fi72
  | 42 => some fi42
  | 43 => some fi43
  | 45 => some fi45
  | 41 => some fi41
  | 46 => some fi46
  | 47 => some fi47
  | 48 => some fi48
  | 49 => some fi49
  | 39 => some fi39
  | 51 => some fi51
  | 70 => some fi70
  | 63 => some fi63
  | 86 => some fi86
  | 38 => some fi38
  | 44 => some fi44
  | 40 => some fi40
  | 50 => some fi50
  | 8 => some fi8
  | 9 => some fi9
  | 10 => some fi10
  | _ => .none

theorem tab17_ok (f : FuncId) (fi : FI) (h : tab17 f = some fi) : FnOk Tryd.prog f fi := by
  unfold tab17 at h
  split at h <;> first | (injection h with h; subst h; first | exact ok71 | exact ok72 | exact ok42 | exact ok43 | exact ok45 | exact ok41 | exact ok46 | exact ok47 | exact ok48 | exact ok49 | exact ok39 | exact ok51 | exact ok70 | exact ok63 | exact ok86 | exact ok38 | exact ok44 | exact ok40 | exact ok50 | exact ok8 | exact ok9 | exact ok10) | cases h

noncomputable abbrev C17 : Callees := limC T prims tab17

theorem C17_ok {c : Cx} (hP : c.P = Tryd.prog) (hl : laidAt c) : CallOK c C17 := limC_ok (tabOk hP) (by rw [hP]; exact seatMixed) (prims_ok hP hl) (fun f fi h => by rw [hP]; exact tab17_ok f fi h)

theorem has17 {f : FuncId} {fi : FI} (h : tab17 f = some fi) (h1 : Nat.beq 52 f = false) : Has T C17 f fi := limC_has h (fun args B => prims_none h1 args B)

theorem known17 : Known17 C17 := by
  repeat' constructor
  all_goals first
    | exact has17 rfl rfl
    | exact fun n B => limC_prim (prims_num n B)

set_option maxRecDepth 100000 in
theorem arg_set {W : World} {r : Reach} {b0 : Nat} {v : Value} (hval : Value.okWide Tryd.prog W r b0 67 v) : ∃ s : Nat → Nat, Wds s ∧ Rep [] (sizeAt W) W (sD s) v :=
  arg_nums (n := 16) (e := 66) (k := .u64) (by kernel_rfl) (by kernel_rfl) (by kernel_rfl) (by decide) (by kernel_rfl) rfl hval

end Go.Proofs.YtbbbhalmlboapaaDoor.V
