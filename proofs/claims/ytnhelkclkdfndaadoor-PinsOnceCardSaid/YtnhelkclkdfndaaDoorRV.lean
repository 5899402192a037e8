/-
Layer 18: the callees, all at once.
-/
import Derived.Test.YtnhelkclkdfndaaDoorRS
import Derived.Test.YtnhelkclkdfndaaDoorDF
import Derived.Test.YtnhelkclkdfndaaDoorXQ
import Derived.Test.YtnhelkclkdfndaaDoorNG
namespace Go.Proofs.YtnhelkclkdfndaaDoor.V
open Go Go.RowKit
set_option linter.unusedSimpArgs false
set_option linter.unusedVariables false

/-! slices.Clone[[]warren/pins.Pin,warren/pins.Pin] -/
def an78 : An := ⟨fun _ => .none, fun _ => 0, fun _ => false, fun _ => .none⟩
noncomputable def fi78 : FI := ⟨1, 8, Tryd.f78.body.getD .skip, Tryd.f78.results.toList, an78, false, false, false⟩
theorem ok78 : FnOk Tryd.prog 78 fi78 := ⟨⟨Tryd.f78, Tryd.func78, by kernel_rfl, rfl, rfl, rfl⟩, by decide, by kernel_rfl, fun h => by cases h⟩

set_option maxRecDepth 10000 in
theorem run78_real (C : Callees) (xs : List D) (h : roomy xs.length 144 = true) (B : Hp) : runV T C fi78 [.vec 18 xs .real] B = some (.vec 18 xs .fresh, B) := by
  rw [e_run _ _ _ rfl]
  simp only [fi78, Tryd.f78, an78, h, T22, T28, T42, T44, EL, e_finWf, e_finWt, e_finMN, e_finMX, retM, meltV, tupV, D.asBox, D.row1, D.freeR, D.freeO, List.replicate_succ, stepD, accs, accP, accW, simpleOp, isAl, isExt, flipD, D.fresh1, D.row, D.plain, D.plain.plainL, St.close, St.close1, St.borrow, retV, resV, resL, outCL, outC, outL, outD, wantedV, opV, An.mid, thawV, St.settle, D.plainU, prune, envOf, get, put, eval, evalT, nz, argsV, capsV, ofV, binV, binV.aggV, unV, intV, eqOp, isConst, natV, optV, loadV, loadC, storeV, setC, St.at_, partV, partTy, indexAddrV, fieldAddrV, sliceV, sliceV.rowSl, sliceV.strSl, bounds, cutP, builtinV, lenV, maxL, maxV, appendV, St.elems, rowOf, rowS, isStr, esz, tdOf, convV, buildV, fillV, partsV, okParts, fillL, D.whole, D.demoteC, D.demote, demoteL, D.global, D.flat, D.leaf, D.cells, TI.agg, TD.rowish, callOpV, moveL, CC, keepB, St.borrowL, St.borrow, D.isLsl, adoptR, adoptC, adoptCL, adoptL, adopt, List.toArray, Array.toList, Nat.reduceEqDiff, Nat.reduceAdd, Nat.reduceSub, Nat.reduceMul, Nat.reduceLeDiff, Nat.reduceLT, reduceIte, reduceCtorEq, forall_const, imp_self, Int.reduceNeg, Int.reduceLT, Int.reduceLE, Int.reduceGT, Int.reduceGE, Int.reduceAdd, Int.reduceSub, Int.reduceMul, Int.reduceToNat, Int.reduceEq, ne_eq, eq_self]

set_option maxRecDepth 10000 in
theorem run78_nil (C : Callees) (B : Hp) : runV T C fi78 [.nilsl] B = some (.vec 18 [] .fresh, B) := by
  rw [e_run _ _ _ rfl]
  simp only [fi78, Tryd.f78, an78, T22, T28, T42, T44, EL, e_finWf, e_finWt, e_finMN, e_finMX, retM, meltV, tupV, D.asBox, D.row1, D.freeR, D.freeO, List.replicate_succ, stepD, accs, accP, accW, simpleOp, isAl, isExt, flipD, D.fresh1, D.row, D.plain, D.plain.plainL, St.close, St.close1, St.borrow, retV, resV, resL, outCL, outC, outL, outD, wantedV, opV, An.mid, thawV, St.settle, D.plainU, prune, envOf, get, put, eval, evalT, nz, argsV, capsV, ofV, binV, binV.aggV, unV, intV, eqOp, isConst, natV, optV, loadV, loadC, storeV, setC, St.at_, partV, partTy, indexAddrV, fieldAddrV, sliceV, sliceV.rowSl, sliceV.strSl, bounds, cutP, builtinV, lenV, maxL, maxV, appendV, St.elems, roomy, rowOf, rowS, isStr, esz, tdOf, convV, buildV, fillV, partsV, okParts, fillL, D.whole, D.demoteC, D.demote, demoteL, D.global, D.flat, D.leaf, D.cells, TI.agg, TD.rowish, callOpV, moveL, CC, keepB, St.borrowL, St.borrow, D.isLsl, adoptR, adoptC, adoptCL, adoptL, adopt, List.toArray, Array.toList, Nat.reduceEqDiff, Nat.reduceAdd, Nat.reduceSub, Nat.reduceMul, Nat.reduceLeDiff, Nat.reduceLT, reduceIte, reduceCtorEq, forall_const, imp_self, Int.reduceNeg, Int.reduceLT, Int.reduceLE, Int.reduceGT, Int.reduceGE, Int.reduceAdd, Int.reduceSub, Int.reduceMul, Int.reduceToNat, Int.reduceEq, ne_eq, eq_self]

noncomputable def tab78 : FuncId → Option FI := fun f => bif Nat.beq f 78 then some fi78 else .none

theorem beqT {a b : Nat} (h : Nat.beq a b = true) : a = b := Nat.eq_of_beq_eq_true h

theorem tabOk {c : Cx} (hP : c.P = Tryd.prog) : TabOk c.P T := by rw [hP]; exact tabOf_ok _

/-- What is known by hand, and copies. -/
noncomputable def primsP : Callees := upd prims 78 (cloneV 18 144)

theorem primsP_ok {c : Cx} (hP : c.P = Tryd.prog) (hl : laidAt c) : CallOK c primsP := by
  refine CallOK.or_nil (prims_ok hP hl) (limC_ok (P0 := noCallees) (F := tab78) (tabOk hP) (by rw [hP]; exact seatMixed) CallOK.none (fun f fi h => ?_)) (fun args B r h => ?_)
  · unfold tab78 at h
    cases hb : Nat.beq f 78 with
    | false => rw [hb] at h; cases h
    | true =>
      rw [hb] at h
      obtain rfl := beqT hb
      injection h with h; subst h
      rw [hP]; exact ok78
  · obtain ⟨xs, rfl, hr, rfl⟩ := cloneV_inv h
    have hH := limC_has (T := T) (P0 := noCallees) (F := tab78) (f := 78) (fi := fi78) rfl (fun _ _ => rfl)
    exact ⟨18, xs, rfl, hH _ _ _ (run78_real _ xs hr B), fun h0 => by subst h0; exact hH _ _ _ (run78_nil _ B)⟩

/-! ### The first half: what Close calls -/
noncomputable def tab0 : FuncId → Option FI
  | 28 => some fi28
  | 84 => some fi84
  | 133 => some fi133
  | 128 => some fi128
  | 127 => some fi127
  | 79 => some fi79
  | 20 => some fi20
  | 85 => some fi85
  | 86 => some fi86
  | 30 => some fi30
  | 29 => some fi29
  | 25 => some fi25
  | 77 => some fi77
  | _ => .none

theorem tab0_ok (f : FuncId) (fi : FI) (h : tab0 f = some fi) : FnOk Tryd.prog f fi := by
  unfold tab0 at h
  split at h <;> first | (injection h with h; subst h; first | exact ok28 | exact ok84 | exact ok133 | exact ok128 | exact ok127 | exact ok79 | exact ok20 | exact ok85 | exact ok86 | exact ok30 | exact ok29 | exact ok25 | exact ok77) | cases h

noncomputable abbrev C0 : Callees := limC T primsP tab0

theorem C0_ok {c : Cx} (hP : c.P = Tryd.prog) (hl : laidAt c) : CallOK c C0 := limC_ok (tabOk hP) (by rw [hP]; exact seatMixed) (primsP_ok hP hl) (fun f fi h => by rw [hP]; exact tab0_ok f fi h)

theorem has0 {f : FuncId} {fi : FI} (h : tab0 f = some fi) (h1 : Nat.beq 23 f = false) (h2 : Nat.beq 78 f = false) : Has T C0 f fi := limC_has h (fun args B => by
  unfold primsP V.upd
  rw [h2]; exact prims_none h1 args B)

theorem known0 : Lib18B C0 := by
  repeat' constructor
  all_goals exact has0 rfl rfl rfl

theorem clone0 (xs : List D) (h : xs.length ≤ 1000) (B : Hp) : primsP 78 [.vec 18 xs .none] B = some (.vec 18 xs .fresh, B) := by
  have hr : roomy xs.length 144 = true := by simp only [roomy, nble, decide_eq_true_eq]; omega
  simp only [primsP, V.upd, nbeq, decide_true, cond_true, cloneV, hr, and_self, if_true]

theorem pn_plain (l : List Pn) : (cellsL (l.map pnD)).all D.plain = true := by
  rw [List.all_eq_true]
  intro x hx
  unfold cellsL at hx
  obtain ⟨ys, hy, hx⟩ := List.mem_flatten.1 hx
  obtain ⟨d, hd, rfl⟩ := List.mem_map.1 hy
  obtain ⟨p, _, rfl⟩ := List.mem_map.1 hd
  have hx : x ∈ (.int .u64 (p.id : Nat) :: .int .u64 (p.sq : Nat) :: nums .u64 16 p.pg) := hx
  rcases List.mem_cons.1 hx with rfl | hx
  · rfl
  rcases List.mem_cons.1 hx with rfl | hx
  · rfl
  unfold nums at hx
  obtain ⟨i, _, rfl⟩ := List.mem_map.1 hx
  rfl

theorem clo_pre (n id : Nat) (l : List Pn) (hl : l.length ≤ 1000) : (0 : Int) ≤ (n : Int) ∧ (0 : Int) ≤ (id : Int) ∧ (l.map pnD).length ≤ 1000 ∧ (cellsL (l.map pnD)).all D.plain = true ∧ C0 78 [.vec 18 (l.map pnD) .none] [] = some (.vec 18 (l.map pnD) .fresh, []) :=
  ⟨Int.natCast_nonneg n, Int.natCast_nonneg id, by simpa using hl, pn_plain l, limC_prim (clone0 _ (by simpa using hl) [])⟩
theorem close_bad (n : Nat) (l : List Pn) (id : Nat) (hl : l.length ≤ 1000) (h : mayP n l = false) : closeV C0 [.agg [.int .u64 (n : Nat), .vec 18 (l.map pnD) .none], .int .u64 (id : Nat)] [] = some (.tuple [.agg [.int .u64 0, .vec 18 [] .fresh], errD 1], []) := by
  have ha := c79_bad known0 n l (by omega) h id []
  rw [errD_pos (by decide)] at ha ⊢
  unfold closeV
  simp only
  rw [if_pos (clo_pre n id l hl), ha]
  simp only [if_true]
theorem close_miss (n : Nat) (l : List Pn) (id : Nat) (h : mayP n l = true) (hi : ∀ i, ¬ isP l id i) : closeV C0 [.agg [.int .u64 (n : Nat), .vec 18 (l.map pnD) .none], .int .u64 (id : Nat)] [] = some (.tuple [.agg [.int .u64 0, .vec 18 [] .fresh], errD 6], []) := by
  have ha := c79_miss known0 n l h hi []
  have h8 := (may_sort h).2.1
  rw [errD_pos (by decide)] at ha ⊢
  unfold closeV
  simp only
  rw [if_pos (clo_pre n id l (by omega)), ha]
  simp only [if_true]
theorem close_hit (n : Nat) (l : List Pn) (id i : Nat) (h : mayP n l = true) (hi : isP l id i) : closeV C0 [.agg [.int .u64 (n : Nat), .vec 18 (l.map pnD) .none], .int .u64 (id : Nat)] [] = some (.tuple [.agg [.int .u64 (n : Nat), .vec 18 ((cutL l i).map pnD) .fresh], .nili], []) := by
  have ha := c79_hit known0 n l h hi []
  have h8 := (may_sort h).2.1
  unfold closeV
  simp only
  rw [if_pos (clo_pre n id l (by omega)), ha]
  simp only
  rw [if_pos ⟨Int.natCast_nonneg i, by rw [Int.toNat_natCast, List.length_map]; exact hi.1⟩, Int.toNat_natCast, cut_map]
  rfl

/-! ### All of them -/
noncomputable def prims18 : Callees := upd primsP 18 (closeV C0)
theorem prims18_ok {c : Cx} (hP : c.P = Tryd.prog) (hl : laidAt c) : CallOK c prims18 := prim_close hP (C0_ok hP hl) (primsP_ok hP hl)

noncomputable def tab18 : FuncId → Option FI
  | 14 => some fi14
  | 15 => some fi15
  | 16 => some fi16
  | 17 => some fi17
  | 19 => some fi19
  | 20 => some fi20
  | 21 => some fi21
  | 22 => some fi22
  | 24 => some fi24
  | 25 => some fi25
  | 26 => some fi26
  | 27 => some fi27
  | 28 => some fi28
  | 29 => some fi29
  | 30 => some fi30
  | 77 => some fi77
  | 79 => some fi79
  | 82 => some fi82
  | 83 => some fi83
  | 84 => some fi84
  | 85 => some fi85
  | 86 => some fi86
  | 127 => some fi127
  | 128 => some fi128
  | 133 => some fi133
  | 3 => some fi3
  | 4 => some fi4
  | 5 => some fi5
  | _ => .none

theorem tab18_ok (f : FuncId) (fi : FI) (h : tab18 f = some fi) : FnOk Tryd.prog f fi := by
  unfold tab18 at h
  split at h <;> first | (injection h with h; subst h; first | exact ok14 | exact ok15 | exact ok16 | exact ok17 | exact ok19 | exact ok20 | exact ok21 | exact ok22 | exact ok24 | exact ok25 | exact ok26 | exact ok27 | exact ok28 | exact ok29 | exact ok30 | exact ok77 | exact ok79 | exact ok82 | exact ok83 | exact ok84 | exact ok85 | exact ok86 | exact ok127 | exact ok128 | exact ok133 | exact ok3 | exact ok4 | exact ok5) | cases h

noncomputable abbrev C18 : Callees := limC T prims18 tab18

theorem C18_ok {c : Cx} (hP : c.P = Tryd.prog) (hl : laidAt c) : CallOK c C18 := limC_ok (tabOk hP) (by rw [hP]; exact seatMixed) (prims18_ok hP hl) (fun f fi h => by rw [hP]; exact tab18_ok f fi h)

theorem has18 {f : FuncId} {fi : FI} (h : tab18 f = some fi) (h1 : Nat.beq 23 f = false) (h2 : Nat.beq 78 f = false) (h3 : Nat.beq 18 f = false) : Has T C18 f fi := limC_has h (fun args B => by
  unfold prims18 V.upd
  rw [h3]
  unfold primsP V.upd
  rw [h2]; exact prims_none h1 args B)

theorem prims_clo (args : List D) (B : Hp) : prims18 18 args B = closeV C0 args B := by
  simp only [prims18, V.upd, nbeq, decide_true, cond_true]
theorem prims_cp (args : List D) (B : Hp) : prims18 78 args B = primsP 78 args B := rfl
theorem prims_nu (args : List D) (B : Hp) : prims18 23 args B = prims 23 args B := rfl

theorem known18 : Known18 C18 := by
  repeat' constructor
  all_goals first
    | exact has18 rfl rfl rfl rfl
    | exact fun n B => limC_prim ((prims_nu _ _).trans (prims_num n B))
    | exact fun l B h => limC_prim ((prims_cp _ _).trans (clone0 _ (by simpa using h) B))
    | exact fun n l id hl h => limC_prim ((prims_clo _ _).trans (close_bad n l id hl h))
    | exact fun n l id h hi => limC_prim ((prims_clo _ _).trans (close_miss n l id h hi))
    | exact fun n l id i h hi => limC_prim ((prims_clo _ _).trans (close_hit n l id i h hi))

end Go.Proofs.YtnhelkclkdfndaaDoor.V
