/-
Layer 9: forks as loads, and back.
-/
import Derived.Test.YtnhelkclkdfndaaDoorQC
namespace Go.Proofs.YtnhelkclkdfndaaDoor.V
open Go Go.RowKit
set_option linter.unusedSimpArgs false
set_option linter.unusedVariables false

/-! warren/branch.Encode -/
def an67 : An := ⟨fun | 8 => some [1, 5, 25, 26, 27] | _ => .none, fun _ => 0, fun _ => false, fun _ => .none⟩
noncomputable def fi67 : FI := ⟨1, 46, Tryd.f67.body.getD .skip, Tryd.f67.results.toList, an67, false, false, false⟩
theorem ok67 : FnOk Tryd.prog 67 fi67 := ⟨⟨Tryd.f67, Tryd.func67, by kernel_rfl, rfl, rfl, rfl⟩, by decide, by kernel_rfl, fun h => by cases h⟩
noncomputable def lp67_0 : Code := subC [1, 1, 1, 1, 0, 1, 0, 0] (Tryd.f67.body.getD .skip)   -- head 8 keep [1, 5, 25, 26, 27]
/-! warren/branch.number -/
def an118 : An := ⟨fun _ => .none, fun _ => 0, fun _ => false, fun _ => .none⟩
noncomputable def fi118 : FI := ⟨1, 11, Tryd.f118.body.getD .skip, Tryd.f118.results.toList, an118, false, false, false⟩
theorem ok118 : FnOk Tryd.prog 118 fi118 := ⟨⟨Tryd.f118, Tryd.func118, by kernel_rfl, rfl, rfl, rfl⟩, by decide, by kernel_rfl, fun h => by cases h⟩
/-! warren/branch.Decode -/
def an69 : An := ⟨fun | 5 => some [2, 4, 5] | _ => .none, fun _ => 0, fun | 6 => true | 7 => true | _ => false, fun _ => .none⟩
noncomputable def fi69 : FI := ⟨1, 46, Tryd.f69.body.getD .skip, Tryd.f69.results.toList, an69, false, true, false⟩
theorem ok69 : FnOk Tryd.prog 69 fi69 := ⟨⟨Tryd.f69, Tryd.func69, by kernel_rfl, rfl, rfl, rfl⟩, by decide, by kernel_rfl, fun h => by cases h⟩
noncomputable def lp69_0 : Code := subC [1, 1, 1, 1, 0, 0, 0] (Tryd.f69.body.getD .skip)   -- head 5 keep [2, 4, 5]
structure Lib09B (C : Callees) : Prop extends Lib09A C, LibIntC C where
  f67 : Has T C 67 fi67
  f118 : Has T C 118 fi118
  f69 : Has T C 69 fi69

variable {C : Callees}

/-! ### Encode -/
def st67 (B : Hp) (ks : List Ky) (ns : List Int) (x : Nat × List UInt8) : St := ⟨[(1, .lptr 0 0), (5, .vec 1 (x.2.map byteD) (.own 0)), (25, strR ks .none), (26, .int .i64 ks.length), (27, .int .i64 (x.1 : Nat))], [some [strR ks .none, intR ns .none]], [true], B⟩

theorem tail_step {ks : List Ky} {ns : List Int} {k : Nat} (h : k < ks.length) (hn : ns.length = ks.length + 1) :
    tailF (ks.drop k) (ns.drop (k + 1)) = (vputS (ks.getD k []).length ++ ks.getD k [] ++ bes (ns.getD (k + 1) 0).toNat 2) ++ tailF (ks.drop (k + 1)) (ns.drop (k + 1 + 1)) := by
  rw [List.drop_eq_getElem_cons h, List.drop_eq_getElem_cons (by omega : k + 1 < ns.length), tailF]
  rw [List.getD_eq_getElem?_getD, List.getElem?_eq_getElem h, List.getD_eq_getElem?_getD, List.getElem?_eq_getElem (by omega : k + 1 < ns.length)]
  rfl
theorem mem_getI {ns : List Int} {k : Nat} (h : k < ns.length) : ns.getD k 0 ∈ ns := by
  rw [List.getD_eq_getElem?_getD, List.getElem?_eq_getElem h]; exact List.getElem_mem h

theorem put2 (l : List UInt8) (v : Nat) : putS l v 2 = l ++ bes v 2 := rfl

set_option maxRecDepth 20000 in
set_option maxHeartbeats 2000000 in
theorem loop67 (hC : Lib09B C) (B : Hp) (ks : List Ky) (ns : List Int) (hm : mayF ks ns = true) (hs : sizeF ks ≤ 504) (st : St) (hst : an67.at_ (some 8) st = st67 B ks ns (0, bes (ns.getD 0 0).toNat 2)) :
    ∃ x st', loopC T an67 C lp67_0 st = some (x, st') ∧ x = .exit 0 ∧ ∃ ρ, st' = ⟨ρ, [some [strR ks .none, intR ns .none]], [true], B⟩ ∧ get ρ 5 = .vec 1 ((encF ks ns).map byteD) (.own 0) := by
  obtain ⟨h1, h2, h3, h4⟩ := may_at hm
  have hkk := may_keys hm
  have hnn := may_kids hm
  have hlen := encF_len h2 (fun k hk => (hkk k hk).2)
  have hks : ks.length ≤ 504 := by
    have : ∀ l : List Ky, l.length ≤ sizeF l := fun l => by induction l with
      | nil => simp [sizeF]
      | cons x l ih => simp [sizeF]; omega
    have := this ks; omega
  refine loop_rule (st67 B ks ns) (fun x => x.1 ≤ ks.length ∧ x.2 ++ tailF (ks.drop x.1) (ns.drop (x.1 + 1)) = encF ks ns) (fun x => ks.length - x.1) _ ?_ (0, bes (ns.getD 0 0).toNat 2) st hst ⟨Nat.zero_le _, ?_⟩
  · rintro ⟨k, acc⟩ ⟨hk, hI⟩
    simp only at hk hI
    have hacc : acc.length ≤ 504 := by
      have := congrArg List.length hI
      rw [List.length_append] at this; omega
    rcases Nat.lt_or_ge k ks.length with h | h
    · left
      have g0 : (k : Int) < ks.length := by omega
      have g1 := pnat k
      have g2 := pnat (k + 1)
      have w1 : IntKind.i64.wrap ((k : Int) + 1) = ((k + 1 : Nat) : Int) := by rw [wrapI (by omega) (by omega)]; rfl
      have e1 := str_get h
      have e2 := int_get (ns := ns) (i := k + 1) (by omega)
      have hx := hkk _ (mem_getD h)
      have hn := hnn _ (mem_getI (ns := ns) (k := k + 1) (by omega))
      have w2 : IntKind.u64.wrap (ns.getD (k + 1) 0) = ((ns.getD (k + 1) 0).toNat : Nat) := by rw [wrap_u64 (by omega) (by omega)]; omega
      have p1 := c116 hC.toLibPackB acc (ks.getD k []) (by omega) (by omega)
      have hv := vputS_len10 (v := (ks.getD k []).length) (by omega)
      have p2 := i115 hC.toLibIntC (acc ++ vputS (ks.getD k []).length ++ ks.getD k []) (ns.getD (k + 1) 0).toNat 2 (by omega) (by simp only [List.length_append]; omega)
      rw [put2] at p2
      rw [tail_step h h2] at hI
      refine ⟨(k + 1, acc ++ vputS (ks.getD k []).length ++ ks.getD k [] ++ bes (ns.getD (k + 1) 0).toNat 2), ?_, ⟨by show k + 1 ≤ _; omega, by rw [← hI]; simp only [List.append_assoc]⟩, by show ks.length - (k + 1) < ks.length - k; omega⟩
      generalize acc ++ vputS (ks.getD k []).length ++ ks.getD k [] ++ bes (ns.getD (k + 1) 0).toNat 2 = acc3 at p2
      generalize acc ++ vputS (ks.getD k []).length ++ ks.getD k [] = acc2 at p1 p2
      generalize ks.getD k [] = x at e1 p1
      generalize (ns.getD (k + 1) 0).toNat = m at w2 p2
      generalize ns.getD (k + 1) 0 = n at e2 w2
      simp only [st67, lp67_0, subC, atC, Tryd.f67, an67, g0, g1, g2, w1, w2, e1, e2, p1, p2, Int.toNat_natCast, T3, T5, T9, T22, T33, T68, T137, T145, T149, T163, EL, e_finWf, e_finWt, e_finMN, e_finMX, retM, meltV, tupV, D.asBox, D.row1, D.freeR, D.freeO, List.replicate_succ, stepD, accs, accP, accW, simpleOp, isAl, isExt, flipD, D.fresh1, D.row, D.plain, D.plain.plainL, St.close, St.close1, St.borrow, retV, resV, resL, outCL, outC, outL, outD, wantedV, opV, An.mid, thawV, St.settle, D.plainU, prune, envOf, get, put, eval, evalT, nz, argsV, capsV, ofV, binV, binV.aggV, unV, intV, eqOp, isConst, natV, optV, loadV, loadC, storeV, setC, St.at_, partV, partTy, indexAddrV, fieldAddrV, sliceV, sliceV.rowSl, sliceV.strSl, bounds, cutP, builtinV, lenV, maxL, maxV, appendV, St.elems, roomy, rowOf, rowS, isStr, esz, tdOf, convV, buildV, fillV, partsV, okParts, fillL, D.whole, D.demoteC, D.demote, demoteL, D.global, D.flat, D.leaf, D.cells, TI.agg, TD.rowish, callOpV, moveL, CC, keepB, St.borrowL, St.borrow, D.isLsl, adoptR, adoptC, adoptCL, adoptL, adopt, List.toArray, Array.toList, Nat.reduceEqDiff, Nat.reduceAdd, Nat.reduceSub, Nat.reduceMul, Nat.reduceLeDiff, Nat.reduceLT, reduceIte, reduceCtorEq, forall_const, imp_self, Int.reduceNeg, Int.reduceLT, Int.reduceLE, Int.reduceGT, Int.reduceGE, Int.reduceAdd, Int.reduceSub, Int.reduceMul, Int.reduceToNat, Int.reduceEq, ne_eq, eq_self]
      exact ⟨_, rfl, rfl⟩
    · right
      obtain rfl : k = ks.length := by omega
      have g0 : ¬ ((ks.length : Nat) : Int) < ks.length := by omega
      have hI2 : acc = encF ks ns := by
        rw [List.drop_length] at hI
        have : tailF [] (ns.drop (ks.length + 1)) = [] := by simp [tailF]
        rw [this, List.append_nil] at hI
        exact hI
      subst hI2
      simp only [st67, lp67_0, subC, atC, Tryd.f67, an67, g0, T3, T5, T9, T22, T33, T68, T137, T145, T149, T163, EL, e_finWf, e_finWt, e_finMN, e_finMX, retM, meltV, tupV, D.asBox, D.row1, D.freeR, D.freeO, List.replicate_succ, stepD, accs, accP, accW, simpleOp, isAl, isExt, flipD, D.fresh1, D.row, D.plain, D.plain.plainL, St.close, St.close1, St.borrow, retV, resV, resL, outCL, outC, outL, outD, wantedV, opV, An.mid, thawV, St.settle, D.plainU, prune, envOf, get, put, eval, evalT, nz, argsV, capsV, ofV, binV, binV.aggV, unV, intV, eqOp, isConst, natV, optV, loadV, loadC, storeV, setC, St.at_, partV, partTy, indexAddrV, fieldAddrV, sliceV, sliceV.rowSl, sliceV.strSl, bounds, cutP, builtinV, lenV, maxL, maxV, appendV, St.elems, roomy, rowOf, rowS, isStr, esz, tdOf, convV, buildV, fillV, partsV, okParts, fillL, D.whole, D.demoteC, D.demote, demoteL, D.global, D.flat, D.leaf, D.cells, TI.agg, TD.rowish, callOpV, moveL, CC, keepB, St.borrowL, St.borrow, D.isLsl, adoptR, adoptC, adoptCL, adoptL, adopt, List.toArray, Array.toList, Nat.reduceEqDiff, Nat.reduceAdd, Nat.reduceSub, Nat.reduceMul, Nat.reduceLeDiff, Nat.reduceLT, reduceIte, reduceCtorEq, forall_const, imp_self, Int.reduceNeg, Int.reduceLT, Int.reduceLE, Int.reduceGT, Int.reduceGE, Int.reduceAdd, Int.reduceSub, Int.reduceMul, Int.reduceToNat, Int.reduceEq, ne_eq, eq_self]
      exact ⟨_, _, rfl, by simp, rfl, _, rfl, rfl⟩
  · cases ns with
    | nil => simp at h2
    | cons n ns => rfl

def encE (ks : List Ky) (ns : List Int) : Nat := if mayF ks ns = true then (if sizeF ks ≤ 504 then 0 else 5) else 1
def encV (ks : List Ky) (ns : List Int) : List UInt8 := if encE ks ns = 0 then encF ks ns else []

set_option maxRecDepth 20000 in
set_option maxHeartbeats 2000000 in
theorem run67 (hC : Lib09B C) (ks : List Ky) (ns : List Int) (h1 : ks.length ≤ 1000) (h2 : ns.length ≤ 1000) (B : Hp) : runV T C fi67 [.agg [strR ks .none, intR ns .none]] B = some (.tuple [.vec 1 ((encV ks ns).map byteD) .fresh, errD (encE ks ns)], B) := by
  rw [e_run _ _ _ rfl]
  have c1 := c73 hC.toLib09A ks ns h1 h2
  unfold mayFE at c1
  unfold encV encE
  cases hm : mayF ks ns with
  | false =>
    rw [hm, if_neg (by decide), errD_pos (by decide)] at c1
    simp only [Bool.false_eq_true, if_false]
    simp only [fi67, Tryd.f67, an67, c1, T3, T5, T9, T22, T33, T68, T137, T145, T149, T163, EL, e_finWf, e_finWt, e_finMN, e_finMX, retM, meltV, tupV, D.asBox, D.row1, D.freeR, D.freeO, List.replicate_succ, stepD, accs, accP, accW, simpleOp, isAl, isExt, flipD, D.fresh1, D.row, D.plain, D.plain.plainL, St.close, St.close1, St.borrow, retV, resV, resL, outCL, outC, outL, outD, wantedV, opV, An.mid, thawV, St.settle, D.plainU, prune, envOf, get, put, eval, evalT, nz, argsV, capsV, ofV, binV, binV.aggV, unV, intV, eqOp, isConst, natV, optV, loadV, loadC, storeV, setC, St.at_, partV, partTy, indexAddrV, fieldAddrV, sliceV, sliceV.rowSl, sliceV.strSl, bounds, cutP, builtinV, lenV, maxL, maxV, appendV, St.elems, roomy, rowOf, rowS, isStr, esz, tdOf, convV, buildV, fillV, partsV, okParts, fillL, D.whole, D.demoteC, D.demote, demoteL, D.global, D.flat, D.leaf, D.cells, TI.agg, TD.rowish, callOpV, moveL, CC, keepB, St.borrowL, St.borrow, D.isLsl, adoptR, adoptC, adoptCL, adoptL, adopt, List.toArray, Array.toList, Nat.reduceEqDiff, Nat.reduceAdd, Nat.reduceSub, Nat.reduceMul, Nat.reduceLeDiff, Nat.reduceLT, reduceIte, reduceCtorEq, forall_const, imp_self, Int.reduceNeg, Int.reduceLT, Int.reduceLE, Int.reduceGT, Int.reduceGE, Int.reduceAdd, Int.reduceSub, Int.reduceMul, Int.reduceToNat, Int.reduceEq, ne_eq, eq_self]
    rfl
  | true =>
    rw [hm, if_pos rfl, errD_zero] at c1
    have c2 := c76 hC.toLib09A ks h1 (fun k hk => (may_keys hm k hk).2)
    by_cases hs : sizeF ks ≤ 504
    · have g1 : ¬ (sizeF ks : Int) > 504 := by omega
      obtain ⟨m1, m2, _, _⟩ := may_at hm
      have hn := may_kids hm _ (mem_getI (ns := ns) (k := 0) (by omega))
      have e1 := int_get (ns := ns) (i := 0) (by omega)
      have w1 : IntKind.u64.wrap (ns.getD 0 0) = ((ns.getD 0 0).toNat : Nat) := by rw [wrap_u64 (by omega) (by omega)]; omega
      have p1 : ∀ B, C 115 [.vec 1 [] .none, .int .u64 (ns.getD 0 0).toNat, .int .i64 2] B = some (.vec 1 ((bes (ns.getD 0 0).toNat 2).map byteD) .fresh, B) := i115 hC.toLibIntC [] (ns.getD 0 0).toNat 2 (by omega) (by decide)
      have lp := loop67 hC B ks ns hm hs
      simp only [hs, if_true]
      generalize bes (ns.getD 0 0).toNat 2 = b0 at p1 lp
      generalize (ns.getD 0 0).toNat = m at w1 p1
      generalize ns.getD 0 0 = n at e1 w1
      simp only [fi67, Tryd.f67, an67, c1, c2, g1, e1, w1, p1, T3, T5, T9, T22, T33, T68, T137, T145, T149, T163, EL, e_finWf, e_finWt, e_finMN, e_finMX, retM, meltV, tupV, D.asBox, D.row1, D.freeR, D.freeO, List.replicate_succ, stepD, accs, accP, accW, simpleOp, isAl, isExt, flipD, D.fresh1, D.row, D.plain, D.plain.plainL, St.close, St.close1, St.borrow, retV, resV, resL, outCL, outC, outL, outD, wantedV, opV, An.mid, thawV, St.settle, D.plainU, prune, envOf, get, put, eval, evalT, nz, argsV, capsV, ofV, binV, binV.aggV, unV, intV, eqOp, isConst, natV, optV, loadV, loadC, storeV, setC, St.at_, partV, partTy, indexAddrV, fieldAddrV, sliceV, sliceV.rowSl, sliceV.strSl, bounds, cutP, builtinV, lenV, maxL, maxV, appendV, St.elems, roomy, rowOf, rowS, isStr, esz, tdOf, convV, buildV, fillV, partsV, okParts, fillL, D.whole, D.demoteC, D.demote, demoteL, D.global, D.flat, D.leaf, D.cells, TI.agg, TD.rowish, callOpV, moveL, CC, keepB, St.borrowL, St.borrow, D.isLsl, adoptR, adoptC, adoptCL, adoptL, adopt, List.toArray, Array.toList, Nat.reduceEqDiff, Nat.reduceAdd, Nat.reduceSub, Nat.reduceMul, Nat.reduceLeDiff, Nat.reduceLT, reduceIte, reduceCtorEq, forall_const, imp_self, Int.reduceNeg, Int.reduceLT, Int.reduceLE, Int.reduceGT, Int.reduceGE, Int.reduceAdd, Int.reduceSub, Int.reduceMul, Int.reduceToNat, Int.reduceEq, ne_eq, eq_self]
      refine' in_loop (c' := lp67_0) (fin T _ _ _) ?h rfl ?q
      case h =>
        refine lp _ ?_
        simp only [an67, ren_map, toks_map, boxes_map, st67, pz0, An.at_, tidyV, tidyW, tidyB, tidyT, sift, envBoxes, envToks, conToks, D.toks, D.tok1, toksL, D.boxes, D.box1, boxesL, memN, posN, renE, D.ren, D.ren1, renL, renB, St.content, St.boxOk, St.tokOk, trues, T3, T5, T9, T22, T33, T68, T137, T145, T149, T163, EL, e_finWf, e_finWt, e_finMN, e_finMX, retM, meltV, tupV, D.asBox, D.row1, D.freeR, D.freeO, List.replicate_succ, stepD, accs, accP, accW, simpleOp, isAl, isExt, flipD, D.fresh1, D.row, D.plain, D.plain.plainL, St.close, St.close1, St.borrow, retV, resV, resL, outCL, outC, outL, outD, wantedV, opV, An.mid, thawV, St.settle, D.plainU, prune, envOf, get, put, eval, evalT, nz, argsV, capsV, ofV, binV, binV.aggV, unV, intV, eqOp, isConst, natV, optV, loadV, loadC, storeV, setC, St.at_, partV, partTy, indexAddrV, fieldAddrV, sliceV, sliceV.rowSl, sliceV.strSl, bounds, cutP, builtinV, lenV, maxL, maxV, appendV, St.elems, roomy, rowOf, rowS, isStr, esz, tdOf, convV, buildV, fillV, partsV, okParts, fillL, D.whole, D.demoteC, D.demote, demoteL, D.global, D.flat, D.leaf, D.cells, TI.agg, TD.rowish, callOpV, moveL, CC, keepB, St.borrowL, St.borrow, D.isLsl, adoptR, adoptC, adoptCL, adoptL, adopt, List.toArray, Array.toList, Nat.reduceEqDiff, Nat.reduceAdd, Nat.reduceSub, Nat.reduceMul, Nat.reduceLeDiff, Nat.reduceLT, reduceIte, reduceCtorEq, forall_const, imp_self, Int.reduceNeg, Int.reduceLT, Int.reduceLE, Int.reduceGT, Int.reduceGE, Int.reduceAdd, Int.reduceSub, Int.reduceMul, Int.reduceToNat, Int.reduceEq, ne_eq, eq_self]
        all_goals rfl
      rintro x st' ⟨rfl, ρ, rfl, r5⟩
      simp only [r5, T3, T5, T9, T22, T33, T68, T137, T145, T149, T163, EL, e_finWf, e_finWt, e_finMN, e_finMX, retM, meltV, tupV, D.asBox, D.row1, D.freeR, D.freeO, List.replicate_succ, stepD, accs, accP, accW, simpleOp, isAl, isExt, flipD, D.fresh1, D.row, D.plain, D.plain.plainL, St.close, St.close1, St.borrow, retV, resV, resL, outCL, outC, outL, outD, wantedV, opV, An.mid, thawV, St.settle, D.plainU, prune, envOf, get, put, eval, evalT, nz, argsV, capsV, ofV, binV, binV.aggV, unV, intV, eqOp, isConst, natV, optV, loadV, loadC, storeV, setC, St.at_, partV, partTy, indexAddrV, fieldAddrV, sliceV, sliceV.rowSl, sliceV.strSl, bounds, cutP, builtinV, lenV, maxL, maxV, appendV, St.elems, roomy, rowOf, rowS, isStr, esz, tdOf, convV, buildV, fillV, partsV, okParts, fillL, D.whole, D.demoteC, D.demote, demoteL, D.global, D.flat, D.leaf, D.cells, TI.agg, TD.rowish, callOpV, moveL, CC, keepB, St.borrowL, St.borrow, D.isLsl, adoptR, adoptC, adoptCL, adoptL, adopt, List.toArray, Array.toList, Nat.reduceEqDiff, Nat.reduceAdd, Nat.reduceSub, Nat.reduceMul, Nat.reduceLeDiff, Nat.reduceLT, reduceIte, reduceCtorEq, forall_const, imp_self, Int.reduceNeg, Int.reduceLT, Int.reduceLE, Int.reduceGT, Int.reduceGE, Int.reduceAdd, Int.reduceSub, Int.reduceMul, Int.reduceToNat, Int.reduceEq, ne_eq, eq_self]
      rfl
    · have g1 : (sizeF ks : Int) > 504 := by omega
      simp only [hs, if_true, if_false]
      simp only [fi67, Tryd.f67, an67, c1, c2, g1, T3, T5, T9, T22, T33, T68, T137, T145, T149, T163, EL, e_finWf, e_finWt, e_finMN, e_finMX, retM, meltV, tupV, D.asBox, D.row1, D.freeR, D.freeO, List.replicate_succ, stepD, accs, accP, accW, simpleOp, isAl, isExt, flipD, D.fresh1, D.row, D.plain, D.plain.plainL, St.close, St.close1, St.borrow, retV, resV, resL, outCL, outC, outL, outD, wantedV, opV, An.mid, thawV, St.settle, D.plainU, prune, envOf, get, put, eval, evalT, nz, argsV, capsV, ofV, binV, binV.aggV, unV, intV, eqOp, isConst, natV, optV, loadV, loadC, storeV, setC, St.at_, partV, partTy, indexAddrV, fieldAddrV, sliceV, sliceV.rowSl, sliceV.strSl, bounds, cutP, builtinV, lenV, maxL, maxV, appendV, St.elems, roomy, rowOf, rowS, isStr, esz, tdOf, convV, buildV, fillV, partsV, okParts, fillL, D.whole, D.demoteC, D.demote, demoteL, D.global, D.flat, D.leaf, D.cells, TI.agg, TD.rowish, callOpV, moveL, CC, keepB, St.borrowL, St.borrow, D.isLsl, adoptR, adoptC, adoptCL, adoptL, adopt, List.toArray, Array.toList, Nat.reduceEqDiff, Nat.reduceAdd, Nat.reduceSub, Nat.reduceMul, Nat.reduceLeDiff, Nat.reduceLT, reduceIte, reduceCtorEq, forall_const, imp_self, Int.reduceNeg, Int.reduceLT, Int.reduceLE, Int.reduceGT, Int.reduceGE, Int.reduceAdd, Int.reduceSub, Int.reduceMul, Int.reduceToNat, Int.reduceEq, ne_eq, eq_self]
      rfl
theorem c67 (hC : Lib09B C) (ks : List Ky) (ns : List Int) (h1 : ks.length ≤ 1000) (h2 : ns.length ≤ 1000) (B : Hp) : C 67 [.agg [.vec 1 (ks.map D.str) .none, .vec 1 (ns.map iD) .none]] B = some (.tuple [.vec 1 ((encV ks ns).map byteD) .fresh, errD (encE ks ns)], B) := hC.f67 _ _ _ (run67 hC ks ns h1 h2 B)

/-! ### A page's number -/
def numbP (s : RS) : RS × Nat := ((byteP (byteP s).1).1, (byteP s).2 * 256 + (byteP (byteP s).1).2)
theorem byteP_lt (s : RS) : (byteP s).2 < 256 := by
  rcases s with _ | _ | ⟨c, l⟩
  · decide
  · decide
  · exact c.toNat_lt

theorem i64_or8b {x y : Nat} (hx : x < 256) (hy : y < 256) : bitsV .or .i64 ((x * 256 : Nat) : Int) (y : Int) = ((x * 256 + y : Nat) : Int) := by
  have h3 : x * 256 ||| y = x * 256 + y := by
    rw [show x * 256 = x <<< 8 by rw [Nat.shiftLeft_eq], ← Nat.shiftLeft_add_eq_or_of_lt (by omega)]
  have h1 : (BitVec.ofNat 64 (x * 256) ||| BitVec.ofNat 64 y).toNat = x * 256 + y := by
    rw [BitVec.toNat_or, BitVec.toNat_ofNat, BitVec.toNat_ofNat, Nat.mod_eq_of_lt (by omega), Nat.mod_eq_of_lt (by omega), h3]
  show IntKind.i64.wrap (((BitVec.ofInt 64 ((x * 256 : Nat) : Int) ||| BitVec.ofInt 64 (y : Int)).toNat : Nat) : Int) = _
  rw [ofInt_nat, ofInt_nat, h1, wrapI (by omega) (by omega)]
theorem shl8b {x : Nat} (hx : x < 256) : shlV .i64 (x : Int) 8 = ((x * 256 : Nat) : Int) := by
  have : shlV .i64 (x : Int) 8 = IntKind.i64.wrap ((x : Int) * 256) := rfl
  rw [this, wrapI (by omega) (by omega)]; omega

set_option maxRecDepth 10000 in
theorem run118 (hC : Lib09B C) (s : RS) : runV T C fi118 [.bptr 0 0] [rdD s] = some (.int .i64 ((numbP s).2 : Nat), [rdD (numbP s).1]) := by
  rw [e_run _ _ _ rfl]
  have c1 := c154 hC.toLibPackB s
  have c2 := c154 hC.toLibPackB (byteP s).1
  have h1 := byteP_lt s
  have h2 := byteP_lt (byteP s).1
  unfold numbP
  generalize (byteP (byteP s).1).1 = s2 at c2
  generalize (byteP (byteP s).1).2 = b at c2 h2
  generalize (byteP s).1 = s1 at c1 c2
  generalize (byteP s).2 = a at c1 h1
  have w1 : IntKind.i64.wrap (a : Int) = a := wrapI (by omega) (by omega)
  have w2 : IntKind.i64.wrap (b : Int) = b := wrapI (by omega) (by omega)
  have s3 := shl8b h1
  have s4 := i64_or8b h1 h2
  simp only [fi118, Tryd.f118, an118, c1, c2, w1, w2, s3, s4, T3, T5, EL, e_finWf, e_finWt, e_finMN, e_finMX, retM, meltV, tupV, D.asBox, D.row1, D.freeR, D.freeO, List.replicate_succ, stepD, accs, accP, accW, simpleOp, isAl, isExt, flipD, D.fresh1, D.row, D.plain, D.plain.plainL, St.close, St.close1, St.borrow, retV, resV, resL, outCL, outC, outL, outD, wantedV, opV, An.mid, thawV, St.settle, D.plainU, prune, envOf, get, put, eval, evalT, nz, argsV, capsV, ofV, binV, binV.aggV, unV, intV, eqOp, isConst, natV, optV, loadV, loadC, storeV, setC, St.at_, partV, partTy, indexAddrV, fieldAddrV, sliceV, sliceV.rowSl, sliceV.strSl, bounds, cutP, builtinV, lenV, maxL, maxV, appendV, St.elems, roomy, rowOf, rowS, isStr, esz, tdOf, convV, buildV, fillV, partsV, okParts, fillL, D.whole, D.demoteC, D.demote, demoteL, D.global, D.flat, D.leaf, D.cells, TI.agg, TD.rowish, callOpV, moveL, CC, keepB, St.borrowL, St.borrow, D.isLsl, adoptR, adoptC, adoptCL, adoptL, adopt, List.toArray, Array.toList, Nat.reduceEqDiff, Nat.reduceAdd, Nat.reduceSub, Nat.reduceMul, Nat.reduceLeDiff, Nat.reduceLT, reduceIte, reduceCtorEq, forall_const, imp_self, Int.reduceNeg, Int.reduceLT, Int.reduceLE, Int.reduceGT, Int.reduceGE, Int.reduceAdd, Int.reduceSub, Int.reduceMul, Int.reduceToNat, Int.reduceEq, ne_eq, eq_self]
theorem c118 (hC : Lib09B C) (s : RS) : C 118 [.bptr 0 0] [rdD s] = some (.int .i64 ((numbP s).2 : Nat), [rdD (numbP s).1]) := hC.f118 _ _ _ (run118 hC s)

end Go.Proofs.YtnhelkclkdfndaaDoor.V
