/-
Layer 31: the callees, all at once; arguments.
-/
import Derived.Test.YtbbbhalmlboapaaDoorMI
import Derived.Test.YtbbbhalmlboapaaDoorXQ
import Derived.Test.YtbbbhalmlboapaaDoorNC
namespace Go.Proofs.YtbbbhalmlboapaaDoor.V
open Go Go.RowKit
set_option linter.unusedSimpArgs false
set_option linter.unusedVariables false

theorem tabOk {c : Cx} (hP : c.P = Tryd.prog) : TabOk c.P T := by rw [hP]; exact tabOf_ok _

noncomputable def tab31 : FuncId → Option FI
  | 33 => some fi33
  | 69 => some fi69
  | 66 => some fi66
  | 65 => some fi65
  | 24 => some fi24
  | 26 => some fi26
  | 31 => some fi31
  | 29 => some fi29
  | 27 => some fi27
  | 36 => some fi36
  | 70 => some fi70
  | 63 => some fi63
  | 86 => some fi86
  | 67 => some fi67
  | 35 => some fi35
  | 68 => some fi68
  | 34 => some fi34
  | 25 => some fi25
  | 32 => some fi32
  | 28 => some fi28
  | 37 => some fi37
  | 5 => some fi5
  | 7 => some fi7
  | 6 => some fi6
  | _ => .none

theorem tab31_ok (f : FuncId) (fi : FI) (h : tab31 f = some fi) : FnOk Tryd.prog f fi := by
  unfold tab31 at h
  split at h <;> first | (injection h with h; subst h; first | exact ok33 | exact ok69 | exact ok66 | exact ok65 | exact ok24 | exact ok26 | exact ok31 | exact ok29 | exact ok27 | exact ok36 | exact ok70 | exact ok63 | exact ok86 | exact ok67 | exact ok35 | exact ok68 | exact ok34 | exact ok25 | exact ok32 | exact ok28 | exact ok37 | exact ok5 | exact ok7 | exact ok6) | cases h

noncomputable abbrev C31 : Callees := limC T prims tab31

theorem C31_ok {c : Cx} (hP : c.P = Tryd.prog) (hl : laidAt c) : CallOK c C31 := limC_ok (tabOk hP) (by rw [hP]; exact seatMixed) (prims_ok hP hl) (fun f fi h => by rw [hP]; exact tab31_ok f fi h)

theorem has31 {f : FuncId} {fi : FI} (h : tab31 f = some fi) (h1 : Nat.beq 30 f = false) : Has T C31 f fi := limC_has h (fun args B => prims_none h1 args B)

theorem known31 : Known31 C31 := by
  repeat' constructor
  all_goals first
    | exact has31 rfl rfl
    | exact fun n B => limC_prim (prims_num n B)

set_option maxRecDepth 100000 in
theorem arg_two {W : World} {r : Reach} {b0 : Nat} {v : Value} (hval : Value.okWide Tryd.prog W r b0 41 v) : ∃ (a : Int) (b : Int), -9223372036854775808 ≤ a ∧ a < 9223372036854775808 ∧ -9223372036854775808 ≤ b ∧ b < 9223372036854775808 ∧ Rep [] (sizeAt W) W (.agg [.int .i64 a, .int .i64 b]) v := by
  have g1 : isAggB Tryd.prog 41 = true := by kernel_rfl
  have g2 : Tryd.prog.cellTypes Tryd.prog.depth 41 = some [3, 3] := by kernel_rfl
  obtain ⟨cs, rfl, hsz, hc⟩ := arg_agg g1 g2 hval
  have hs3 : cs.size = 2 := hsz.trans (by kernel_rfl)
  obtain ⟨u0, e0, c0⟩ := hc 0 _ (Array.getElem?_eq_getElem (by omega))
  injection e0 with e0; subst e0
  obtain ⟨a, x0, y0⟩ := cell_int (by kernel_rfl : Tryd.prog.underlying 3 = some (.int .i64)) c0
  simp [IntKind.has, IntKind.min, IntKind.max, IntKind.bits, IntKind.signed] at y0
  obtain ⟨u1, e1, c1⟩ := hc 1 _ (Array.getElem?_eq_getElem (by omega))
  injection e1 with e1; subst e1
  obtain ⟨b, x1, y1⟩ := cell_int (by kernel_rfl : Tryd.prog.underlying 3 = some (.int .i64)) c1
  simp [IntKind.has, IntKind.min, IntKind.max, IntKind.bits, IntKind.signed] at y1
  refine ⟨a, b, by omega, by omega, by omega, by omega, rep_agg (by simp [hs3]) (fun i d hi => ?_)⟩
  rcases i with _ | _ | i
  · obtain rfl := Option.some.inj hi; exact ⟨_, Array.getElem?_eq_getElem (by omega), by rw [x0]; exact .int _ _⟩
  · obtain rfl := Option.some.inj hi; exact ⟨_, Array.getElem?_eq_getElem (by omega), by rw [x1]; exact .int _ _⟩
  · simp at hi

set_option maxRecDepth 100000 in
theorem arg_mat {W : World} {r : Reach} {b0 : Nat} {v : Value} (hval : Value.okWide Tryd.prog W r b0 40 v) : ∃ m : Nat → Nat, Bnd m ∧ Rep [] (sizeAt W) W (mD m) v :=
  arg_nums (n := 16) (e := 39) (k := .u16) (by kernel_rfl) (by kernel_rfl) (by kernel_rfl) (by decide) (by kernel_rfl) rfl hval

set_option maxRecDepth 100000 in
theorem arg_pairs {H : Type} {enc : TypeId × Value → H} {base : Nat} {spare : Nat → Bool} {held : Bool} {W : World} {r : Reach} {b0 : Nat} {v : Value} {d : DataW H} {ps : List MemPlace} (hval : Value.okWide Tryd.prog W r b0 62 v) (hd : DataW.Trod enc Tryd.prog W base spare held 62 v d ps) :
    ∃ l : List (Nat × Nat), l.length ≤ 9223372036854775807 ∧ (∀ x, x ∈ l → x.1 < 256 ∧ x.2 < 256) ∧ Rep [] (sizeAt W) W (pairs l) v := by
  obtain ⟨x, h1, h2⟩ := arg_rows (n := 5) (e := 63) (ls := [.int .u8, .int .u8]) (by kernel_rfl) (by kernel_rfl) hval hd
  obtain ⟨xs, rfl, hl, h3, h4⟩ := h1.rows'
  obtain ⟨l, h5, h6, h7⟩ := map_of (f := pairD) (Q := fun x => x.1 < 256 ∧ x.2 < 256) xs (fun x hx => by
    obtain ⟨a, b, rfl⟩ := len2 (h3 x hx)
    obtain ⟨m, rfl, hm⟩ := (h4 _ 0 _ a hx rfl rfl).u8
    obtain ⟨k, rfl, hk⟩ := (h4 _ 1 _ b hx rfl rfl).u8
    exact ⟨(m, k), rfl, hm, hk⟩)
  rw [h5] at h2
  exact ⟨l, by omega, h6, h2⟩

end Go.Proofs.YtbbbhalmlboapaaDoor.V
