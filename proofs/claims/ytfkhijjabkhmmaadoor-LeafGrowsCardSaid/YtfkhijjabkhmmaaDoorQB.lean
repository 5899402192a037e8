/-
Layer 9: what may be; how many bytes; the way to a key.
-/
import Derived.Test.YtfkhijjabkhmmaaDoorQA
namespace Go.Proofs.YtfkhijjabkhmmaaDoor.V
open Go Go.RowKit
set_option linter.unusedSimpArgs false
set_option linter.unusedVariables false

/-! warren/keys.Check -/
def an56 : An := ⟨fun _ => .none, fun _ => 0, fun _ => false, fun _ => .none⟩
noncomputable def fi56 : FI := ⟨1, 11, Tryd.f56.body.getD .skip, Tryd.f56.results.toList, an56, false, false, false⟩
theorem ok56 : FnOk Tryd.prog 56 fi56 := ⟨⟨Tryd.f56, Tryd.func56, by kernel_rfl, rfl, rfl, rfl⟩, by decide, by kernel_rfl, fun h => by cases h⟩
/-! warren/branch.Size -/
def an102 : An := ⟨fun | 3 => some [3, 6, 7, 8] | _ => .none, fun _ => 0, fun _ => false, fun _ => .none⟩
noncomputable def fi102 : FI := ⟨1, 20, Tryd.f102.body.getD .skip, Tryd.f102.results.toList, an102, false, false, false⟩
theorem ok102 : FnOk Tryd.prog 102 fi102 := ⟨⟨Tryd.f102, Tryd.func102, by kernel_rfl, rfl, rfl, rfl⟩, by decide, by kernel_rfl, fun h => by cases h⟩
noncomputable def lp102_0 : Code := subC [1, 1, 0, 1, 0, 0] (Tryd.f102.body.getD .skip)   -- head 3 keep [3, 6, 7, 8]
/-! warren/branch.Way -/
def an83 : An := ⟨fun _ => .none, fun _ => 0, fun _ => false, fun _ => .none⟩
noncomputable def fi83 : FI := ⟨2, 17, Tryd.f83.body.getD .skip, Tryd.f83.results.toList, an83, false, false, false⟩
theorem ok83 : FnOk Tryd.prog 83 fi83 := ⟨⟨Tryd.f83, Tryd.func83, by kernel_rfl, rfl, rfl, rfl⟩, by decide, by kernel_rfl, fun h => by cases h⟩
/-! slices.BinarySearchFunc[[]string,string,string] -/
def an97 : An := ⟨fun | 3 => some [0, 1, 2, 8, 9, 10] | _ => .none, fun _ => 0, fun _ => false, fun _ => .none⟩
noncomputable def fi97 : FI := ⟨3, 49, Tryd.f97.body.getD .skip, Tryd.f97.results.toList, an97, false, false, false⟩
theorem ok97 : FnOk Tryd.prog 97 fi97 := ⟨⟨Tryd.f97, Tryd.func97, by kernel_rfl, rfl, rfl, rfl⟩, by decide, by kernel_rfl, fun h => by cases h⟩
noncomputable def lp97_0 : Code := subC [1, 1, 1, 0, 0, 0] (Tryd.f97.body.getD .skip)   -- head 3 keep [0, 1, 2, 8, 9, 10]
/-! cmp.Compare[string] -/
def an55 : An := ⟨fun _ => .none, fun _ => 0, fun _ => false, fun _ => .none⟩
noncomputable def fi55 : FI := ⟨2, 20, Tryd.f55.body.getD .skip, Tryd.f55.results.toList, an55, false, false, false⟩
theorem ok55 : FnOk Tryd.prog 55 fi55 := ⟨⟨Tryd.f55, Tryd.func55, by kernel_rfl, rfl, rfl, rfl⟩, by decide, by kernel_rfl, fun h => by cases h⟩
/-! cmp.isNaN[string] -/
def an79 : An := ⟨fun _ => .none, fun _ => 0, fun _ => false, fun _ => .none⟩
noncomputable def fi79 : FI := ⟨1, 6, Tryd.f79.body.getD .skip, Tryd.f79.results.toList, an79, false, false, false⟩
theorem ok79 : FnOk Tryd.prog 79 fi79 := ⟨⟨Tryd.f79, Tryd.func79, by kernel_rfl, rfl, rfl, rfl⟩, by decide, by kernel_rfl, fun h => by cases h⟩
structure Lib09A (C : Callees) : Prop extends LibPackB C where
  f56 : Has T C 56 fi56
  f102 : Has T C 102 fi102
  f83 : Has T C 83 fi83
  f97 : Has T C 97 fi97
  f55 : Has T C 55 fi55
  f79 : Has T C 79 fi79

variable {C : Callees}

abbrev iD (n : Int) : D := .int .i64 n
abbrev strR (ks : List Ky) (p : Perm) : D := .vec 1 (ks.map D.str) p
abbrev intR (ns : List Int) (p : Perm) : D := .vec 1 (ns.map iD) p
theorem str_get {ks : List Ky} {i : Nat} (h : i < ks.length) : (ks.map D.str)[i]? = some (.str (ks.getD i [])) := by
  rw [List.getElem?_map, List.getD_eq_getElem?_getD, List.getElem?_eq_getElem h]; rfl
theorem int_get {ns : List Int} {i : Nat} (h : i < ns.length) : (ns.map iD)[i]? = some (.int .i64 (ns.getD i 0)) := by
  rw [List.getElem?_map, List.getD_eq_getElem?_getD, List.getElem?_eq_getElem h]; rfl

/-! ### Check -/
def keyE (k : Ky) : Nat := if 1 ≤ k.length ∧ k.length ≤ 40 then 0 else 1
set_option maxRecDepth 10000 in
theorem run56 (C : Callees) (k : Ky) (B : Hp) : runV T C fi56 [.str k] B = some (errD (keyE k), B) := by
  rw [e_run _ _ _ rfl]
  unfold keyE
  cases k with
  | nil =>
    have g : strV .eql [] [] = some (.bool true) := rfl
    simp only [fi56, Tryd.f56, an56, g, T3, T9, T85, EL, e_finWf, e_finWt, e_finMN, e_finMX, retM, meltV, tupV, D.asBox, D.row1, D.freeR, D.freeO, List.replicate_succ, stepD, accs, accP, accW, simpleOp, isAl, isExt, flipD, D.fresh1, D.row, D.plain, D.plain.plainL, St.close, St.close1, St.borrow, retV, resV, resL, outCL, outC, outL, outD, wantedV, opV, An.mid, thawV, St.settle, D.plainU, prune, envOf, get, put, eval, evalT, nz, argsV, capsV, ofV, binV, binV.aggV, unV, intV, eqOp, isConst, natV, optV, loadV, loadC, storeV, setC, St.at_, partV, partTy, indexAddrV, fieldAddrV, sliceV, sliceV.rowSl, sliceV.strSl, bounds, cutP, builtinV, lenV, maxL, maxV, appendV, St.elems, roomy, rowOf, rowS, isStr, esz, tdOf, convV, buildV, fillV, partsV, okParts, fillL, D.whole, D.demoteC, D.demote, demoteL, D.global, D.flat, D.leaf, D.cells, TI.agg, TD.rowish, callOpV, moveL, CC, keepB, St.borrowL, St.borrow, D.isLsl, adoptR, adoptC, adoptCL, adoptL, adopt, List.toArray, Array.toList, Nat.reduceEqDiff, Nat.reduceAdd, Nat.reduceSub, Nat.reduceMul, Nat.reduceLeDiff, Nat.reduceLT, reduceIte, reduceCtorEq, forall_const, imp_self, Int.reduceNeg, Int.reduceLT, Int.reduceLE, Int.reduceGT, Int.reduceGE, Int.reduceAdd, Int.reduceSub, Int.reduceMul, Int.reduceToNat, Int.reduceEq, ne_eq, eq_self]
    rfl
  | cons c k =>
    have g : strV .eql (c :: k) [] = some (.bool false) := rfl
    by_cases h : (c :: k).length ≤ 40
    · have h1 : ¬ ((k.length + 1 : Nat) : Int) > 40 := by simp at h; omega
      rw [if_pos ⟨by simp, h⟩]
      simp only [fi56, Tryd.f56, an56, g, h1, T3, T9, T85, EL, e_finWf, e_finWt, e_finMN, e_finMX, retM, meltV, tupV, D.asBox, D.row1, D.freeR, D.freeO, List.replicate_succ, stepD, accs, accP, accW, simpleOp, isAl, isExt, flipD, D.fresh1, D.row, D.plain, D.plain.plainL, St.close, St.close1, St.borrow, retV, resV, resL, outCL, outC, outL, outD, wantedV, opV, An.mid, thawV, St.settle, D.plainU, prune, envOf, get, put, eval, evalT, nz, argsV, capsV, ofV, binV, binV.aggV, unV, intV, eqOp, isConst, natV, optV, loadV, loadC, storeV, setC, St.at_, partV, partTy, indexAddrV, fieldAddrV, sliceV, sliceV.rowSl, sliceV.strSl, bounds, cutP, builtinV, lenV, maxL, maxV, appendV, St.elems, roomy, rowOf, rowS, isStr, esz, tdOf, convV, buildV, fillV, partsV, okParts, fillL, D.whole, D.demoteC, D.demote, demoteL, D.global, D.flat, D.leaf, D.cells, TI.agg, TD.rowish, callOpV, moveL, CC, keepB, St.borrowL, St.borrow, D.isLsl, adoptR, adoptC, adoptCL, adoptL, adopt, List.toArray, Array.toList, Nat.reduceEqDiff, Nat.reduceAdd, Nat.reduceSub, Nat.reduceMul, Nat.reduceLeDiff, Nat.reduceLT, reduceIte, reduceCtorEq, forall_const, imp_self, Int.reduceNeg, Int.reduceLT, Int.reduceLE, Int.reduceGT, Int.reduceGE, Int.reduceAdd, Int.reduceSub, Int.reduceMul, Int.reduceToNat, Int.reduceEq, ne_eq, eq_self]
      rfl
    · have h1 : ((k.length + 1 : Nat) : Int) > 40 := by simp at h; omega
      rw [if_neg (fun h2 => h h2.2)]
      simp only [fi56, Tryd.f56, an56, g, h1, T3, T9, T85, EL, e_finWf, e_finWt, e_finMN, e_finMX, retM, meltV, tupV, D.asBox, D.row1, D.freeR, D.freeO, List.replicate_succ, stepD, accs, accP, accW, simpleOp, isAl, isExt, flipD, D.fresh1, D.row, D.plain, D.plain.plainL, St.close, St.close1, St.borrow, retV, resV, resL, outCL, outC, outL, outD, wantedV, opV, An.mid, thawV, St.settle, D.plainU, prune, envOf, get, put, eval, evalT, nz, argsV, capsV, ofV, binV, binV.aggV, unV, intV, eqOp, isConst, natV, optV, loadV, loadC, storeV, setC, St.at_, partV, partTy, indexAddrV, fieldAddrV, sliceV, sliceV.rowSl, sliceV.strSl, bounds, cutP, builtinV, lenV, maxL, maxV, appendV, St.elems, roomy, rowOf, rowS, isStr, esz, tdOf, convV, buildV, fillV, partsV, okParts, fillL, D.whole, D.demoteC, D.demote, demoteL, D.global, D.flat, D.leaf, D.cells, TI.agg, TD.rowish, callOpV, moveL, CC, keepB, St.borrowL, St.borrow, D.isLsl, adoptR, adoptC, adoptCL, adoptL, adopt, List.toArray, Array.toList, Nat.reduceEqDiff, Nat.reduceAdd, Nat.reduceSub, Nat.reduceMul, Nat.reduceLeDiff, Nat.reduceLT, reduceIte, reduceCtorEq, forall_const, imp_self, Int.reduceNeg, Int.reduceLT, Int.reduceLE, Int.reduceGT, Int.reduceGE, Int.reduceAdd, Int.reduceSub, Int.reduceMul, Int.reduceToNat, Int.reduceEq, ne_eq, eq_self]
      rfl
theorem c56 (hC : Lib09A C) (k : Ky) (B : Hp) : C 56 [.str k] B = some (errD (keyE k), B) := hC.f56 _ _ _ (run56 C k B)

def seenF (ns : List Int) (k : Nat) : Nat → Bool := fun v => !allB k (fun j => !decide (ns.getD j 0 = (v : Int)))
theorem seenF_upd (ns : List Int) (k m : Nat) (hm : ns.getD k 0 = (m : Int)) : updA (seenF ns k) m true = seenF ns (k + 1) := by
  funext v
  unfold updA seenF
  rw [allB, hm]
  by_cases h : v = m
  · subst h; simp
  · rw [if_neg h, decide_eq_false (by omega)]; simp
def mayFE (ks : List Ky) (ns : List Int) : Nat := if mayF ks ns = true then 0 else 1
end Go.Proofs.YtfkhijjabkhmmaaDoor.V
