/-
Layer 5: the callees, all at once; arguments.
-/
import Derived.Test.YtbbbhalmlboapaaDoorWJ
import Derived.Test.YtbbbhalmlboapaaDoorXQ
import Derived.Test.YtbbbhalmlboapaaDoorNG
namespace Go.Proofs.YtbbbhalmlboapaaDoor.V
open Go Go.RowKit
set_option linter.unusedSimpArgs false
set_option linter.unusedVariables false

/-! slices.Clone[[]byte,byte] -/
def an78 : An := ⟨fun _ => .none, fun _ => 0, fun _ => false, fun _ => .none⟩
noncomputable def fi78 : FI := ⟨1, 8, Tryd.f78.body.getD .skip, Tryd.f78.results.toList, an78, false, false, false⟩
theorem ok78 : FnOk Tryd.prog 78 fi78 := ⟨⟨Tryd.f78, Tryd.func78, by kernel_rfl, rfl, rfl, rfl⟩, by decide, by kernel_rfl, fun h => by cases h⟩

set_option maxRecDepth 10000 in
theorem run78_real (C : Callees) (xs : List D) (h : roomy xs.length 1 = true) (B : Hp) : runV T C fi78 [.vec 1 xs .real] B = some (.vec 1 xs .fresh, B) := by
  rw [e_run _ _ _ rfl]
  simp only [fi78, Tryd.f78, an78, h, T5, T33, EL, e_finWf, e_finWt, e_finMN, e_finMX, retM, meltV, tupV, D.asBox, D.row1, D.freeR, D.freeO, List.replicate_succ, stepD, accs, accP, accW, simpleOp, isAl, isExt, flipD, D.fresh1, D.row, D.plain, D.plain.plainL, St.close, St.close1, St.borrow, retV, resV, resL, outCL, outC, outL, outD, wantedV, opV, An.mid, thawV, St.settle, D.plainU, prune, envOf, get, put, eval, evalT, nz, argsV, capsV, ofV, binV, binV.aggV, unV, intV, eqOp, isConst, natV, optV, loadV, loadC, storeV, setC, St.at_, partV, partTy, indexAddrV, fieldAddrV, sliceV, sliceV.rowSl, sliceV.strSl, bounds, cutP, builtinV, lenV, maxL, maxV, appendV, St.elems, rowOf, rowS, isStr, esz, tdOf, convV, buildV, fillV, partsV, okParts, fillL, D.whole, D.demoteC, D.demote, demoteL, D.global, D.flat, D.leaf, D.cells, TI.agg, TD.rowish, callOpV, moveL, CC, keepB, St.borrowL, St.borrow, D.isLsl, adoptR, adoptC, adoptCL, adoptL, adopt, List.toArray, Array.toList, Nat.reduceEqDiff, Nat.reduceAdd, Nat.reduceSub, Nat.reduceMul, Nat.reduceLeDiff, Nat.reduceLT, reduceIte, reduceCtorEq, forall_const, imp_self, Int.reduceNeg, Int.reduceLT, Int.reduceLE, Int.reduceGT, Int.reduceGE, Int.reduceAdd, Int.reduceSub, Int.reduceMul, Int.reduceToNat, Int.reduceEq, ne_eq, eq_self]

set_option maxRecDepth 10000 in
theorem run78_nil (C : Callees) (B : Hp) : runV T C fi78 [.nilsl] B = some (.vec 1 [] .fresh, B) := by
  rw [e_run _ _ _ rfl]
  simp only [fi78, Tryd.f78, an78, T5, T33, EL, e_finWf, e_finWt, e_finMN, e_finMX, retM, meltV, tupV, D.asBox, D.row1, D.freeR, D.freeO, List.replicate_succ, stepD, accs, accP, accW, simpleOp, isAl, isExt, flipD, D.fresh1, D.row, D.plain, D.plain.plainL, St.close, St.close1, St.borrow, retV, resV, resL, outCL, outC, outL, outD, wantedV, opV, An.mid, thawV, St.settle, D.plainU, prune, envOf, get, put, eval, evalT, nz, argsV, capsV, ofV, binV, binV.aggV, unV, intV, eqOp, isConst, natV, optV, loadV, loadC, storeV, setC, St.at_, partV, partTy, indexAddrV, fieldAddrV, sliceV, sliceV.rowSl, sliceV.strSl, bounds, cutP, builtinV, lenV, maxL, maxV, appendV, St.elems, roomy, rowOf, rowS, isStr, esz, tdOf, convV, buildV, fillV, partsV, okParts, fillL, D.whole, D.demoteC, D.demote, demoteL, D.global, D.flat, D.leaf, D.cells, TI.agg, TD.rowish, callOpV, moveL, CC, keepB, St.borrowL, St.borrow, D.isLsl, adoptR, adoptC, adoptCL, adoptL, adopt, List.toArray, Array.toList, Nat.reduceEqDiff, Nat.reduceAdd, Nat.reduceSub, Nat.reduceMul, Nat.reduceLeDiff, Nat.reduceLT, reduceIte, reduceCtorEq, forall_const, imp_self, Int.reduceNeg, Int.reduceLT, Int.reduceLE, Int.reduceGT, Int.reduceGE, Int.reduceAdd, Int.reduceSub, Int.reduceMul, Int.reduceToNat, Int.reduceEq, ne_eq, eq_self]

noncomputable def tab78 : FuncId → Option FI := fun f => bif Nat.beq f 78 then some fi78 else .none

theorem beqT {a b : Nat} (h : Nat.beq a b = true) : a = b := Nat.eq_of_beq_eq_true h

theorem tabOk {c : Cx} (hP : c.P = Tryd.prog) : TabOk c.P T := by rw [hP]; exact tabOf_ok _

/-- What is known by hand, and copies. -/
noncomputable def prims05 : Callees := upd prims 78 (cloneV 1 1)

theorem prims05_ok {c : Cx} (hP : c.P = Tryd.prog) (hl : laidAt c) : CallOK c prims05 := by
  refine CallOK.or_nil (prims_ok hP hl) (limC_ok (P0 := noCallees) (F := tab78) (tabOk hP) (by rw [hP]; exact seatMixed) CallOK.none (fun f fi h => ?_)) (fun args B r h => ?_)
  · unfold tab78 at h
    cases hb : Nat.beq f 78 with
    | false => rw [hb] at h; cases h
    | true =>
      rw [hb] at h
      obtain rfl := beqT hb
      injection h with h; subst h
      rw [hP]; exact ok78
  · obtain ⟨xs, rfl, hr, rfl⟩ := cloneV_inv h
    have hH := limC_has (T := T) (P0 := noCallees) (F := tab78) (f := 78) (fi := fi78) rfl (fun _ _ => rfl)
    exact ⟨1, xs, rfl, hH _ _ _ (run78_real _ xs hr B), fun h0 => by subst h0; exact hH _ _ _ (run78_nil _ B)⟩

noncomputable def tab05 : FuncId → Option FI
  | 60 => some fi60
  | 81 => some fi81
  | 73 => some fi73
  | 58 => some fi58
  | 54 => some fi54
  | 56 => some fi56
  | 80 => some fi80
  | 93 => some fi93
  | 55 => some fi55
  | 57 => some fi57
  | 99 => some fi99
  | 91 => some fi91
  | 75 => some fi75
  | 77 => some fi77
  | 76 => some fi76
  | 79 => some fi79
  | 74 => some fi74
  | 92 => some fi92
  | 53 => some fi53
  | 11 => some fi11
  | 12 => some fi12
  | 13 => some fi13
  | _ => .none

theorem tab05_ok (f : FuncId) (fi : FI) (h : tab05 f = some fi) : FnOk Tryd.prog f fi := by
  unfold tab05 at h
  split at h <;> first | (injection h with h; subst h; first | exact ok60 | exact ok81 | exact ok73 | exact ok58 | exact ok54 | exact ok56 | exact ok80 | exact ok93 | exact ok55 | exact ok57 | exact ok99 | exact ok91 | exact ok75 | exact ok77 | exact ok76 | exact ok79 | exact ok74 | exact ok92 | exact ok53 | exact ok11 | exact ok12 | exact ok13) | cases h

noncomputable abbrev C05 : Callees := limC T prims05 tab05

theorem C05_ok {c : Cx} (hP : c.P = Tryd.prog) (hl : laidAt c) : CallOK c C05 := limC_ok (tabOk hP) (by rw [hP]; exact seatMixed) (prims05_ok hP hl) (fun f fi h => by rw [hP]; exact tab05_ok f fi h)

theorem has05 {f : FuncId} {fi : FI} (h : tab05 f = some fi) (h1 : Nat.beq 59 f = false) (h2 : Nat.beq 78 f = false) : Has T C05 f fi := limC_has h (fun args B => by
  unfold prims05 V.upd
  rw [h2]; exact prims_none h1 args B)

theorem roomy_bytes {n : Nat} (h : n ≤ 140737488351232) : roomy n 1 = true := by
  simp only [roomy, nble, decide_eq_true_eq]; omega

theorem known05 : Known05 C05 := by
  repeat' constructor
  all_goals first
    | exact has05 rfl rfl rfl
    | exact fun n B => limC_prim (prims_num n B)
    | exact fun l B h => limC_prim (by
        show prims05 _ _ _ = _
        simp only [prims05, V.upd, nbeq, decide_true, cond_true, cloneV, List.length_map, roomy_bytes (Nat.le_trans h (by decide)), and_self, if_true])

set_option maxRecDepth 100000 in
theorem arg_kinds {W : World} {r : Reach} {b0 : Nat} {v : Value} (hval : Value.okWide Tryd.prog W r b0 63 v) : ∃ (a : Nat) (b : Nat), a < 256 ∧ b < 256 ∧ Rep [] (sizeAt W) W (.agg [.int .u8 (a : Nat), .int .u8 (b : Nat)]) v := by
  have g1 : isAggB Tryd.prog 63 = true := by kernel_rfl
  have g2 : Tryd.prog.cellTypes Tryd.prog.depth 63 = some [5, 5] := by kernel_rfl
  obtain ⟨cs, rfl, hsz, hc⟩ := arg_agg g1 g2 hval
  have hs3 : cs.size = 2 := hsz.trans (by kernel_rfl)
  obtain ⟨u0, e0, c0⟩ := hc 0 _ (Array.getElem?_eq_getElem (by omega))
  injection e0 with e0; subst e0
  obtain ⟨a, x0, y0⟩ := cell_int (by kernel_rfl : Tryd.prog.underlying 5 = some (.int .u8)) c0
  simp [IntKind.has, IntKind.min, IntKind.max, IntKind.bits, IntKind.signed] at y0
  obtain ⟨u1, e1, c1⟩ := hc 1 _ (Array.getElem?_eq_getElem (by omega))
  injection e1 with e1; subst e1
  obtain ⟨b, x1, y1⟩ := cell_int (by kernel_rfl : Tryd.prog.underlying 5 = some (.int .u8)) c1
  simp [IntKind.has, IntKind.min, IntKind.max, IntKind.bits, IntKind.signed] at y1
  refine ⟨a.toNat, b.toNat, by omega, by omega, rep_agg (by simp [hs3]) (fun i d hi => ?_)⟩
  rcases i with _ | _ | i
  · obtain rfl := Option.some.inj hi; exact ⟨_, Array.getElem?_eq_getElem (by omega), by rw [x0, show ((a.toNat : Nat) : Int) = a by omega]; exact .int _ _⟩
  · obtain rfl := Option.some.inj hi; exact ⟨_, Array.getElem?_eq_getElem (by omega), by rw [x1, show ((b.toNat : Nat) : Int) = b by omega]; exact .int _ _⟩
  · simp at hi

theorem u8n {k : Nat} (h : k < 256) : (UInt8.ofNat k).toNat = k := by rw [UInt8.toNat_ofNat']; exact Nat.mod_eq_of_lt h

theorem run11_n (k : Nat) (hk : k < 256) (l b : List UInt8) : runV T C05 fi11 [.int .u8 k, .vec 1 (l.map byteD) .none, .vec 1 (b.map byteD) .none] [] = some (.bool true, []) := by
  have := run11 known05 (UInt8.ofNat k) l b
  rw [u8n hk] at this; exact this
theorem run12_n (k : Nat) (hk : k < 256) (l : List UInt8) (n : Int) : runV T C05 fi12 [.int .u8 k, .vec 1 (l.map byteD) .none, .int .i64 n] [] = some (.bool true, []) := by
  have := run12 known05 (UInt8.ofNat k) l n
  rw [u8n hk] at this; exact this
theorem run13_n (a b : List UInt8) (p q : Nat) (hp : p < 256) (hq : q < 256) : runV T C05 fi13 [.vec 1 (a.map byteD) .none, .vec 1 (b.map byteD) .none, .agg [.int .u8 p, .int .u8 q]] [] = some (.bool true, []) := by
  have := run13 known05 a b (UInt8.ofNat p) (UInt8.ofNat q)
  rw [u8n hp, u8n hq] at this; exact this

end Go.Proofs.YtbbbhalmlboapaaDoor.V
