/-
Layer 26: the callees, all at once.
-/
import Derived.Test.YtbbbhalmlboapaaDoorLD
import Derived.Test.YtbbbhalmlboapaaDoorGE
import Derived.Test.YtbbbhalmlboapaaDoorXQ
import Derived.Test.YtbbbhalmlboapaaDoorNC
namespace Go.Proofs.YtbbbhalmlboapaaDoor.V
open Go Go.RowKit
set_option linter.unusedSimpArgs false
set_option linter.unusedVariables false

theorem tabOk {c : Cx} (hP : c.P = Tryd.prog) : TabOk c.P T := by rw [hP]; exact tabOf_ok _

/-! ### The first half: what text calls -/
noncomputable def tab0 : FuncId → Option FI
  | 19 => some fi19
  | 63 => some fi63
  | 86 => some fi86
  | 70 => some fi70
  | _ => .none

theorem tab0_ok (f : FuncId) (fi : FI) (h : tab0 f = some fi) : FnOk Tryd.prog f fi := by
  unfold tab0 at h
  split at h <;> first | (injection h with h; subst h; first | exact ok19 | exact ok63 | exact ok86 | exact ok70) | cases h

noncomputable abbrev C0 : Callees := limC T prims tab0

theorem C0_ok {c : Cx} (hP : c.P = Tryd.prog) (hl : laidAt c) : CallOK c C0 := limC_ok (tabOk hP) (by rw [hP]; exact seatMixed) (prims_ok hP hl) (fun f fi h => by rw [hP]; exact tab0_ok f fi h)

theorem has0 {f : FuncId} {fi : FI} (h : tab0 f = some fi) (h1 : Nat.beq 20 f = false) : Has T C0 f fi := limC_has h (fun args B => prims_none h1 args B)

theorem int0 : LibInt C0 := by
  repeat' constructor
  all_goals exact has0 rfl rfl

theorem text0 (n : Nat) (hn : n < 256) : textV C0 [.int .u8 (n : Nat)] [] = some (.str (textS (n % 64)), []) := by
  have h1 := (has0 (f := 19) rfl rfl) _ _ _ (run19 int0 n hn [])
  have h2 : ∀ i, i < 6 → C0 63 [.int .u64 (2 ^ i : Nat)] [] = some (.int .i64 (i : Nat), []) := fun i hi => by
    obtain ⟨p1, p2, p3⟩ := pow_ctz i hi
    have := i63 int0 (2 ^ i) (by omega) []
    rw [lowS_pos p2, ctz_lo6 p2 p1, p3] at this
    exact this
  unfold textV
  simp only [Int.toNat_natCast]
  rw [if_pos ⟨Int.natCast_nonneg n, h1, h2⟩]

/-! ### All of them -/
noncomputable def prims26 : Callees := upd (upd prims 62 indexV) 61 (textV C0)
theorem prims26_ok {c : Cx} (hP : c.P = Tryd.prog) (hl : laidAt c) : CallOK c prims26 := prim_text hP (C0_ok hP hl) (prim_index hP (prims_ok hP hl))

noncomputable def tab26 : FuncId → Option FI
  | 23 => some fi23
  | 21 => some fi21
  | 19 => some fi19
  | 63 => some fi63
  | 86 => some fi86
  | 70 => some fi70
  | 15 => some fi15
  | 17 => some fi17
  | 16 => some fi16
  | 18 => some fi18
  | 22 => some fi22
  | 14 => some fi14
  | 3 => some fi3
  | 4 => some fi4
  | _ => .none

theorem tab26_ok (f : FuncId) (fi : FI) (h : tab26 f = some fi) : FnOk Tryd.prog f fi := by
  unfold tab26 at h
  split at h <;> first | (injection h with h; subst h; first | exact ok23 | exact ok21 | exact ok19 | exact ok63 | exact ok86 | exact ok70 | exact ok15 | exact ok17 | exact ok16 | exact ok18 | exact ok22 | exact ok14 | exact ok3 | exact ok4) | cases h

noncomputable abbrev C26 : Callees := limC T prims26 tab26

theorem C26_ok {c : Cx} (hP : c.P = Tryd.prog) (hl : laidAt c) : CallOK c C26 := limC_ok (tabOk hP) (by rw [hP]; exact seatMixed) (prims26_ok hP hl) (fun f fi h => by rw [hP]; exact tab26_ok f fi h)

theorem has26 {f : FuncId} {fi : FI} (h : tab26 f = some fi) (h1 : Nat.beq 20 f = false) (h2 : Nat.beq 62 f = false) (h3 : Nat.beq 61 f = false) : Has T C26 f fi := limC_has h (fun args B => by
  unfold prims26 V.upd
  rw [h3]
  simp only [cond_false]
  rw [h2]; exact prims_none h1 args B)

theorem prims_tx (args : List D) (B : Hp) : prims26 61 args B = textV C0 args B := by
  simp only [prims26, V.upd, nbeq, decide_true, cond_true]
theorem prims_ib (args : List D) (B : Hp) : prims26 62 args B = indexV args B := rfl
theorem prims_nu (args : List D) (B : Hp) : prims26 20 args B = prims 20 args B := rfl

theorem known26 : Known26 C26 := by
  repeat' constructor
  all_goals first
    | exact has26 rfl rfl rfl rfl
    | exact fun n B => limC_prim ((prims_nu _ _).trans (prims_num n B))
    | exact fun s n B => limC_prim ((prims_ib _ _).trans rfl)
    | exact fun n hn => limC_prim ((prims_tx _ _).trans (text0 n hn))

end Go.Proofs.YtbbbhalmlboapaaDoor.V
