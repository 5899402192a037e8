/-
Layer 17: what the document's functions compute.
-/
import Derived.Test.YtbbbhalmlboapaaDoorBD
namespace Go.Proofs.YtbbbhalmlboapaaDoor.V
open Go Go.RowKit
set_option linter.unusedSimpArgs false
set_option linter.unusedVariables false

/-! warren/warrenref17.Of -/
def an38 : An := ⟨fun | 3 => some [1, 2, 3, 4] | 7 => some [1, 2, 3, 4, 5, 6] | _ => .none, fun _ => 0, fun _ => false, fun _ => .none⟩
noncomputable def fi38 : FI := ⟨1, 29, Tryd.f38.body.getD .skip, Tryd.f38.results.toList, an38, false, false⟩
theorem ok38 : FnOk Tryd.prog 38 fi38 := ⟨⟨Tryd.f38, Tryd.func38, by kernel_rfl, rfl, rfl, rfl⟩, by decide, by kernel_rfl, fun h => by cases h⟩
noncomputable def lp38_0 : Code := subC [1, 1, 0, 1, 0, 0] (Tryd.f38.body.getD .skip)   -- head 3 keep [1, 2, 3, 4]
noncomputable def lp38_1 : Code := subC [1, 1, 0, 1, 0, 0, 1, 0, 0, 1, 0, 1, 0, 0] (Tryd.f38.body.getD .skip)   -- head 7 keep [1, 2, 3, 4, 5, 6]
/-! warren/warrenref17.Set -/
def an44 : An := ⟨fun | 3 => some [1, 2, 3, 4] | _ => .none, fun _ => 0, fun _ => false, fun _ => .none⟩
noncomputable def fi44 : FI := ⟨1, 27, Tryd.f44.body.getD .skip, Tryd.f44.results.toList, an44, false, false⟩
theorem ok44 : FnOk Tryd.prog 44 fi44 := ⟨⟨Tryd.f44, Tryd.func44, by kernel_rfl, rfl, rfl, rfl⟩, by decide, by kernel_rfl, fun h => by cases h⟩
noncomputable def lp44_0 : Code := subC [1, 1, 0, 1, 0, 0] (Tryd.f44.body.getD .skip)   -- head 3 keep [1, 2, 3, 4]
/-! warren/warrenref17.All -/
def an40 : An := ⟨fun | 3 => some [1, 3, 4] | _ => .none, fun _ => 0, fun _ => false, fun _ => .none⟩
noncomputable def fi40 : FI := ⟨1, 17, Tryd.f40.body.getD .skip, Tryd.f40.results.toList, an40, false, false⟩
theorem ok40 : FnOk Tryd.prog 40 fi40 := ⟨⟨Tryd.f40, Tryd.func40, by kernel_rfl, rfl, rfl, rfl⟩, by decide, by kernel_rfl, fun h => by cases h⟩
noncomputable def lp40_0 : Code := subC [1, 1, 0, 1, 0, 0] (Tryd.f40.body.getD .skip)   -- head 3 keep [1, 3, 4]
structure Ref17 (C : Callees) : Prop extends Lib17 C where
  f38 : Has T C 38 fi38
  f44 : Has T C 44 fi44
  f40 : Has T C 40 fi40

variable {C : Callees}

/-! ### Of -/
abbrev lD (l : Nat → Bool) : D := .agg (bools 1024 l)
abbrev offs : Nat → Bool := fun _ => false
def ofK (s : Nat → Nat) (p : Nat) : Nat → Bool := fun k => decide (k < p) && mem s k
theorem ofK_step (s : Nat → Nat) (p : Nat) : updA (ofK s p) p (mem s p) = ofK s (p + 1) := by
  funext k
  unfold updA ofK
  by_cases e : k = p
  · subst e; simp
  · rw [if_neg e, show decide (k < p + 1) = decide (k < p) from decide_eq_decide.2 (by omega)]
theorem ofK_end (s : Nat → Nat) : bools 1024 (ofK s 1024) = bools 1024 (mem s) := bools_ext fun i hi => by unfold ofK; simp [hi]
theorem ofK_0 (s : Nat → Nat) : (fun _ => false) = ofK s 0 := by funext k; unfold ofK; simp

theorem tbit {v b : Nat} : (((v / 2 ^ b : Nat) : Int).tmod 2 = 1) = (v.testBit b = true) := by
  rw [tmod2, Nat.testBit_eq_decide_div_mod_eq, decide_eq_true_eq]
  exact propext ⟨fun h => by omega, fun h => by omega⟩
theorem tdiv64 (x : Nat) : (x : Int).tdiv 64 = ((x / 64 : Nat) : Int) := by rw [Int.tdiv_eq_ediv_of_nonneg (by omega)]; omega
theorem tmod64 (x : Nat) : (x : Int).tmod 64 = ((x % 64 : Nat) : Int) := by rw [Int.tmod_eq_emod_of_nonneg (by omega)]; omega

def st38 (B : Hp) (s : Nat → Nat) (i : Nat) : St := ⟨[(1, .lptr 0 0), (2, .lptr 1 0), (3, .lptr 2 0), (4, .int .i64 i)], [some (nums .u64 16 s), some (bools 1024 offs), some (bools 1024 (ofK s i))], [], B⟩
def st38_1 (B : Hp) (s : Nat → Nat) (i k : Nat) : St := ⟨[(1, .lptr 0 0), (2, .lptr 1 0), (3, .lptr 2 0), (4, .int .i64 i), (5, .int .u64 (s (i / 64) / 2 ^ k : Nat)), (6, .int .i64 k)], [some (nums .u64 16 s), some (bools 1024 offs), some (bools 1024 (ofK s i))], [], B⟩

set_option maxRecDepth 10000 in
theorem loop38_1 (C : Callees) (B : Hp) {s : Nat → Nat} (hs : Wds s) {i : Nat} (hi : i < 1024) (st : St) (hst : an38.at_ (some 7) st = st38_1 B s i 0) :
    ∃ x st', loopC T an38 C lp38_1 st = some (x, st') ∧ x = .exit 2 ∧ ∃ ρ, st' = ⟨ρ, [some (nums .u64 16 s), some (bools 1024 offs), some (bools 1024 (ofK s i))], [], B⟩ ∧ get ρ 1 = .lptr 0 0 ∧ get ρ 2 = .lptr 1 0 ∧ get ρ 3 = .lptr 2 0 ∧ get ρ 4 = .int .i64 i ∧ get ρ 5 = .int .u64 (s (i / 64) / 2 ^ (i % 64) : Nat) := by
  refine loop_rule (st38_1 B s i) (fun k => k ≤ i % 64) (fun k => i % 64 - k) _ ?_ 0 st hst (Nat.zero_le _)
  intro k hk
  have t1 := tmod64 i
  rcases Nat.lt_or_ge k (i % 64) with h | h
  · left
    refine ⟨k + 1, ?_, by omega, by omega⟩
    have g0 : (k : Int) < ((i % 64 : Nat) : Int) := by omega
    have w1 : IntKind.i64.wrap ((k : Int) + 1) = ((k + 1 : Nat) : Int) := by rw [wrapI (by omega) (by omega)]; rfl
    have d1 := tdiv2 (s (i / 64) / 2 ^ k)
    rw [Nat.div_div_eq_div_mul, ← Nat.pow_succ] at d1
    have w2 : IntKind.u64.wrap ((s (i / 64) / 2 ^ (k + 1) : Nat) : Int) = ((s (i / 64) / 2 ^ (k + 1) : Nat) : Int) := wrap_u64 (Int.natCast_nonneg _) (Int.ofNat_lt.2 (Nat.lt_of_le_of_lt (Nat.div_le_self _ _) (hs _ (by omega))))
    simp only [st38_1, lp38_1, subC, atC, Tryd.f38, an38, t1, g0, w1, d1, w2, T3, T4, T66, T67, T68, EL, List.replicate_succ, stepD, accs, accP, accW, simpleOp, isAl, isExt, flipD, D.fresh1, D.row, D.plain, D.plain.plainL, St.close, St.close1, St.borrow, retV, resV, resL, outCL, outC, outL, outD, wantedV, opV, An.mid, thawV, D.plainU, prune, envOf, get, put, eval, evalT, nz, argsV, capsV, ofV, binV, binV.aggV, unV, intV, eqOp, isConst, natV, optV, loadV, loadC, storeV, setC, St.at_, partV, partTy, indexAddrV, fieldAddrV, sliceV, sliceV.rowSl, sliceV.strSl, bounds, cutP, builtinV, lenV, maxL, maxV, appendV, St.elems, roomy, rowOf, rowS, isStr, esz, tdOf, convV, buildV, fillV, partsV, okParts, fillL, D.whole, D.demoteC, D.demote, demoteL, D.global, D.flat, D.leaf, D.cells, TI.agg, TD.rowish, callOpV, moveL, CC, keepB, St.borrowL, St.borrow, D.isLsl, adoptR, adoptC, adoptCL, adoptL, adopt, List.toArray, Array.toList, Nat.reduceEqDiff, Nat.reduceAdd, Nat.reduceSub, Nat.reduceMul, Nat.reduceLeDiff, Nat.reduceLT, reduceIte, reduceCtorEq, forall_const, imp_self, Int.reduceNeg, Int.reduceLT, Int.reduceLE, Int.reduceGT, Int.reduceGE, Int.reduceAdd, Int.reduceSub, Int.reduceMul, Int.reduceToNat, Int.reduceEq, ne_eq, eq_self]
    refine ⟨_, rfl, ?_⟩
    show an38.at_ (some 7) _ = _
    simp only [an38, ren_map, toks_map, boxes_map, AL, An.at_, tidyV, tidyW, tidyB, tidyT, sift, envBoxes, envToks, conToks, D.toks, D.tok1, toksL, D.boxes, D.box1, boxesL, memN, posN, renE, D.ren, D.ren1, renL, renB, St.content, St.boxOk, St.tokOk, trues, T3, T4, T66, T67, T68, EL, List.replicate_succ, stepD, accs, accP, accW, simpleOp, isAl, isExt, flipD, D.fresh1, D.row, D.plain, D.plain.plainL, St.close, St.close1, St.borrow, retV, resV, resL, outCL, outC, outL, outD, wantedV, opV, An.mid, thawV, D.plainU, prune, envOf, get, put, eval, evalT, nz, argsV, capsV, ofV, binV, binV.aggV, unV, intV, eqOp, isConst, natV, optV, loadV, loadC, storeV, setC, St.at_, partV, partTy, indexAddrV, fieldAddrV, sliceV, sliceV.rowSl, sliceV.strSl, bounds, cutP, builtinV, lenV, maxL, maxV, appendV, St.elems, roomy, rowOf, rowS, isStr, esz, tdOf, convV, buildV, fillV, partsV, okParts, fillL, D.whole, D.demoteC, D.demote, demoteL, D.global, D.flat, D.leaf, D.cells, TI.agg, TD.rowish, callOpV, moveL, CC, keepB, St.borrowL, St.borrow, D.isLsl, adoptR, adoptC, adoptCL, adoptL, adopt, List.toArray, Array.toList, Nat.reduceEqDiff, Nat.reduceAdd, Nat.reduceSub, Nat.reduceMul, Nat.reduceLeDiff, Nat.reduceLT, reduceIte, reduceCtorEq, forall_const, imp_self, Int.reduceNeg, Int.reduceLT, Int.reduceLE, Int.reduceGT, Int.reduceGE, Int.reduceAdd, Int.reduceSub, Int.reduceMul, Int.reduceToNat, Int.reduceEq, ne_eq, eq_self]
  · right
    obtain rfl : k = i % 64 := by omega
    have g0 : ¬ ((i % 64 : Nat) : Int) < ((i % 64 : Nat) : Int) := by omega
    simp only [st38_1, lp38_1, subC, atC, Tryd.f38, an38, t1, g0, T3, T4, T66, T67, T68, EL, List.replicate_succ, stepD, accs, accP, accW, simpleOp, isAl, isExt, flipD, D.fresh1, D.row, D.plain, D.plain.plainL, St.close, St.close1, St.borrow, retV, resV, resL, outCL, outC, outL, outD, wantedV, opV, An.mid, thawV, D.plainU, prune, envOf, get, put, eval, evalT, nz, argsV, capsV, ofV, binV, binV.aggV, unV, intV, eqOp, isConst, natV, optV, loadV, loadC, storeV, setC, St.at_, partV, partTy, indexAddrV, fieldAddrV, sliceV, sliceV.rowSl, sliceV.strSl, bounds, cutP, builtinV, lenV, maxL, maxV, appendV, St.elems, roomy, rowOf, rowS, isStr, esz, tdOf, convV, buildV, fillV, partsV, okParts, fillL, D.whole, D.demoteC, D.demote, demoteL, D.global, D.flat, D.leaf, D.cells, TI.agg, TD.rowish, callOpV, moveL, CC, keepB, St.borrowL, St.borrow, D.isLsl, adoptR, adoptC, adoptCL, adoptL, adopt, List.toArray, Array.toList, Nat.reduceEqDiff, Nat.reduceAdd, Nat.reduceSub, Nat.reduceMul, Nat.reduceLeDiff, Nat.reduceLT, reduceIte, reduceCtorEq, forall_const, imp_self, Int.reduceNeg, Int.reduceLT, Int.reduceLE, Int.reduceGT, Int.reduceGE, Int.reduceAdd, Int.reduceSub, Int.reduceMul, Int.reduceToNat, Int.reduceEq, ne_eq, eq_self]
    exact ⟨_, _, rfl, by simp, rfl, _, rfl, rfl, rfl, rfl, rfl, rfl⟩

set_option maxRecDepth 10000 in
theorem loop38 (C : Callees) (B : Hp) {s : Nat → Nat} (hs : Wds s) (st : St) (hst : an38.at_ (some 3) st = st38 B s 0) :
    ∃ x st', loopC T an38 C lp38_0 st = some (x, st') ∧ x = .exit 0 ∧ ∃ ρ, st' = ⟨ρ, [some (nums .u64 16 s), some (bools 1024 offs), some (bools 1024 (mem s))], [], B⟩ ∧ get ρ 2 = .lptr 1 0 ∧ get ρ 3 = .lptr 2 0 := by
  refine loop_rule (st38 B s) (fun i => i ≤ 1024) (fun i => 1024 - i) _ ?_ 0 st hst (by omega)
  intro i hi
  rcases Nat.lt_or_ge i 1024 with h | h
  · left
    refine ⟨i + 1, ?_, by omega, by omega⟩
    have g0 : (i : Int) < 1024 := by omega
    have w1 : IntKind.i64.wrap ((i : Int) + 1) = ((i + 1 : Nat) : Int) := by rw [wrapI (by omega) (by omega)]; rfl
    have t1 := tdiv64 i
    have h16 : i / 64 < 16 := by omega
    have w2 : IntKind.i64.wrap ((i / 64 : Nat) : Int) = ((i / 64 : Nat) : Int) := wrapI (by omega) (by omega)
    have n1 := nat0 (i / 64)
    have n2 := nat0 i
    have g1 := nums_get (k := .u64) (m := s) h16
    simp only [st38, lp38_0, subC, atC, Tryd.f38, an38, g0, t1, w2, n1, h16, g1, AL, T3, T4, T66, T67, T68, EL, List.replicate_succ, stepD, accs, accP, accW, simpleOp, isAl, isExt, flipD, D.fresh1, D.row, D.plain, D.plain.plainL, St.close, St.close1, St.borrow, retV, resV, resL, outCL, outC, outL, outD, wantedV, opV, An.mid, thawV, D.plainU, prune, envOf, get, put, eval, evalT, nz, argsV, capsV, ofV, binV, binV.aggV, unV, intV, eqOp, isConst, natV, optV, loadV, loadC, storeV, setC, St.at_, partV, partTy, indexAddrV, fieldAddrV, sliceV, sliceV.rowSl, sliceV.strSl, bounds, cutP, builtinV, lenV, maxL, maxV, appendV, St.elems, roomy, rowOf, rowS, isStr, esz, tdOf, convV, buildV, fillV, partsV, okParts, fillL, D.whole, D.demoteC, D.demote, demoteL, D.global, D.flat, D.leaf, D.cells, TI.agg, TD.rowish, callOpV, moveL, CC, keepB, St.borrowL, St.borrow, D.isLsl, adoptR, adoptC, adoptCL, adoptL, adopt, List.toArray, Array.toList, Nat.reduceEqDiff, Nat.reduceAdd, Nat.reduceSub, Nat.reduceMul, Nat.reduceLeDiff, Nat.reduceLT, reduceIte, reduceCtorEq, forall_const, imp_self, Int.reduceNeg, Int.reduceLT, Int.reduceLE, Int.reduceGT, Int.reduceGE, Int.reduceAdd, Int.reduceSub, Int.reduceMul, Int.reduceToNat, Int.reduceEq, ne_eq, eq_self]
    generalize hr : loopC T _ C _ _ = r
    obtain ⟨x, st', rfl, hx⟩ := nest hr (loop38_1 C B hs h _ (by
      clear hr
      simp only [an38, ren_map, toks_map, boxes_map, st38_1, AL, An.at_, tidyV, tidyW, tidyB, tidyT, sift, envBoxes, envToks, conToks, D.toks, D.tok1, toksL, D.boxes, D.box1, boxesL, memN, posN, renE, D.ren, D.ren1, renL, renB, St.content, St.boxOk, St.tokOk, trues, T3, T4, T66, T67, T68, EL, List.replicate_succ, stepD, accs, accP, accW, simpleOp, isAl, isExt, flipD, D.fresh1, D.row, D.plain, D.plain.plainL, St.close, St.close1, St.borrow, retV, resV, resL, outCL, outC, outL, outD, wantedV, opV, An.mid, thawV, D.plainU, prune, envOf, get, put, eval, evalT, nz, argsV, capsV, ofV, binV, binV.aggV, unV, intV, eqOp, isConst, natV, optV, loadV, loadC, storeV, setC, St.at_, partV, partTy, indexAddrV, fieldAddrV, sliceV, sliceV.rowSl, sliceV.strSl, bounds, cutP, builtinV, lenV, maxL, maxV, appendV, St.elems, roomy, rowOf, rowS, isStr, esz, tdOf, convV, buildV, fillV, partsV, okParts, fillL, D.whole, D.demoteC, D.demote, demoteL, D.global, D.flat, D.leaf, D.cells, TI.agg, TD.rowish, callOpV, moveL, CC, keepB, St.borrowL, St.borrow, D.isLsl, adoptR, adoptC, adoptCL, adoptL, adopt, List.toArray, Array.toList, Nat.reduceEqDiff, Nat.reduceAdd, Nat.reduceSub, Nat.reduceMul, Nat.reduceLeDiff, Nat.reduceLT, reduceIte, reduceCtorEq, forall_const, imp_self, Int.reduceNeg, Int.reduceLT, Int.reduceLE, Int.reduceGT, Int.reduceGE, Int.reduceAdd, Int.reduceSub, Int.reduceMul, Int.reduceToNat, Int.reduceEq, ne_eq, eq_self]
      rw [Nat.pow_zero, Nat.div_one]
      rfl)) rfl
    clear hr
    obtain ⟨rfl, ρ, rfl, h1, h2, h3, h4, h5⟩ := hx
    have z1 := tbit (v := s (i / 64)) (b := i % 64)
    have s1 := bools_set (n := 1024) (p := ofK s i) (a := i) (x := mem s i) h
    rw [ofK_step] at s1
    unfold mem at s1
    simp only [h1, h2, h3, h4, h5, w1, n2, h, z1, s1, Bool.decide_eq_true, AL, T3, T4, T66, T67, T68, EL, List.replicate_succ, stepD, accs, accP, accW, simpleOp, isAl, isExt, flipD, D.fresh1, D.row, D.plain, D.plain.plainL, St.close, St.close1, St.borrow, retV, resV, resL, outCL, outC, outL, outD, wantedV, opV, An.mid, thawV, D.plainU, prune, envOf, get, put, eval, evalT, nz, argsV, capsV, ofV, binV, binV.aggV, unV, intV, eqOp, isConst, natV, optV, loadV, loadC, storeV, St.at_, partV, partTy, indexAddrV, fieldAddrV, sliceV, sliceV.rowSl, sliceV.strSl, bounds, cutP, builtinV, lenV, maxL, maxV, appendV, St.elems, roomy, rowOf, rowS, isStr, esz, tdOf, convV, buildV, fillV, partsV, okParts, fillL, D.whole, D.demoteC, D.demote, demoteL, D.global, D.flat, D.leaf, D.cells, TI.agg, TD.rowish, callOpV, moveL, CC, keepB, St.borrowL, St.borrow, D.isLsl, adoptR, adoptC, adoptCL, adoptL, adopt, List.toArray, Array.toList, Nat.reduceEqDiff, Nat.reduceAdd, Nat.reduceSub, Nat.reduceMul, Nat.reduceLeDiff, Nat.reduceLT, reduceIte, reduceCtorEq, forall_const, imp_self, Int.reduceNeg, Int.reduceLT, Int.reduceLE, Int.reduceGT, Int.reduceGE, Int.reduceAdd, Int.reduceSub, Int.reduceMul, Int.reduceToNat, Int.reduceEq, ne_eq, eq_self]
    refine ⟨_, rfl, ?_⟩
    show an38.at_ (some 3) _ = _
    simp only [an38, ren_map, toks_map, boxes_map, st38, h1, h2, h3, h4, h5, AL, An.at_, tidyV, tidyW, tidyB, tidyT, sift, envBoxes, envToks, conToks, D.toks, D.tok1, toksL, D.boxes, D.box1, boxesL, memN, posN, renE, D.ren, D.ren1, renL, renB, St.content, St.boxOk, St.tokOk, trues, T3, T4, T66, T67, T68, EL, List.replicate_succ, stepD, accs, accP, accW, simpleOp, isAl, isExt, flipD, D.fresh1, D.row, D.plain, D.plain.plainL, St.close, St.close1, St.borrow, retV, resV, resL, outCL, outC, outL, outD, wantedV, opV, An.mid, thawV, D.plainU, prune, envOf, get, put, eval, evalT, nz, argsV, capsV, ofV, binV, binV.aggV, unV, intV, eqOp, isConst, natV, optV, loadV, loadC, storeV, setC, St.at_, partV, partTy, indexAddrV, fieldAddrV, sliceV, sliceV.rowSl, sliceV.strSl, bounds, cutP, builtinV, lenV, maxL, maxV, appendV, St.elems, roomy, rowOf, rowS, isStr, esz, tdOf, convV, buildV, fillV, partsV, okParts, fillL, D.whole, D.demoteC, D.demote, demoteL, D.global, D.flat, D.leaf, D.cells, TI.agg, TD.rowish, callOpV, moveL, CC, keepB, St.borrowL, St.borrow, D.isLsl, adoptR, adoptC, adoptCL, adoptL, adopt, List.toArray, Array.toList, Nat.reduceEqDiff, Nat.reduceAdd, Nat.reduceSub, Nat.reduceMul, Nat.reduceLeDiff, Nat.reduceLT, reduceIte, reduceCtorEq, forall_const, imp_self, Int.reduceNeg, Int.reduceLT, Int.reduceLE, Int.reduceGT, Int.reduceGE, Int.reduceAdd, Int.reduceSub, Int.reduceMul, Int.reduceToNat, Int.reduceEq, ne_eq, eq_self]
  · right
    obtain rfl : i = 1024 := by omega
    have g0 : ¬ ((1024 : Nat) : Int) < 1024 := by omega
    have e := ofK_end s
    simp only [st38, lp38_0, subC, atC, Tryd.f38, an38, g0, e, T3, T4, T66, T67, T68, EL, List.replicate_succ, stepD, accs, accP, accW, simpleOp, isAl, isExt, flipD, D.fresh1, D.row, D.plain, D.plain.plainL, St.close, St.close1, St.borrow, retV, resV, resL, outCL, outC, outL, outD, wantedV, opV, An.mid, thawV, D.plainU, prune, envOf, get, put, eval, evalT, nz, argsV, capsV, ofV, binV, binV.aggV, unV, intV, eqOp, isConst, natV, optV, loadV, loadC, storeV, setC, St.at_, partV, partTy, indexAddrV, fieldAddrV, sliceV, sliceV.rowSl, sliceV.strSl, bounds, cutP, builtinV, lenV, maxL, maxV, appendV, St.elems, roomy, rowOf, rowS, isStr, esz, tdOf, convV, buildV, fillV, partsV, okParts, fillL, D.whole, D.demoteC, D.demote, demoteL, D.global, D.flat, D.leaf, D.cells, TI.agg, TD.rowish, callOpV, moveL, CC, keepB, St.borrowL, St.borrow, D.isLsl, adoptR, adoptC, adoptCL, adoptL, adopt, List.toArray, Array.toList, Nat.reduceEqDiff, Nat.reduceAdd, Nat.reduceSub, Nat.reduceMul, Nat.reduceLeDiff, Nat.reduceLT, reduceIte, reduceCtorEq, forall_const, imp_self, Int.reduceNeg, Int.reduceLT, Int.reduceLE, Int.reduceGT, Int.reduceGE, Int.reduceAdd, Int.reduceSub, Int.reduceMul, Int.reduceToNat, Int.reduceEq, ne_eq, eq_self]
    exact ⟨_, _, rfl, by simp, rfl, _, rfl, rfl, rfl⟩

set_option maxRecDepth 10000 in
theorem run38 (C : Callees) {s : Nat → Nat} (hs : Wds s) (B : Hp) : runV T C fi38 [sD s] B = some (lD (mem s), B) := by
  rw [e_run _ _ _ rfl]
  simp only [fi38, Tryd.f38, an38, AL, T3, T4, T66, T67, T68, EL, List.replicate_succ, stepD, accs, accP, accW, simpleOp, isAl, isExt, flipD, D.fresh1, D.row, D.plain, D.plain.plainL, St.close, St.close1, St.borrow, retV, resV, resL, outCL, outC, outL, outD, wantedV, opV, An.mid, thawV, D.plainU, prune, envOf, get, put, eval, evalT, nz, argsV, capsV, ofV, binV, binV.aggV, unV, intV, eqOp, isConst, natV, optV, loadV, loadC, storeV, St.at_, partV, partTy, indexAddrV, fieldAddrV, sliceV, sliceV.rowSl, sliceV.strSl, bounds, cutP, builtinV, lenV, maxL, maxV, appendV, St.elems, roomy, rowOf, rowS, isStr, esz, tdOf, convV, buildV, fillV, partsV, okParts, fillL, D.whole, D.demoteC, D.demote, demoteL, D.global, D.flat, D.leaf, D.cells, TI.agg, TD.rowish, callOpV, moveL, CC, keepB, St.borrowL, St.borrow, D.isLsl, adoptR, adoptC, adoptCL, adoptL, adopt, List.toArray, Array.toList, Nat.reduceEqDiff, Nat.reduceAdd, Nat.reduceSub, Nat.reduceMul, Nat.reduceLeDiff, Nat.reduceLT, reduceIte, reduceCtorEq, forall_const, imp_self, Int.reduceNeg, Int.reduceLT, Int.reduceLE, Int.reduceGT, Int.reduceGE, Int.reduceAdd, Int.reduceSub, Int.reduceMul, Int.reduceToNat, Int.reduceEq, ne_eq, eq_self]
  refine' in_loop (c' := lp38_0) (fin T _ _ _) ?h rfl ?q
  case h =>
    refine loop38 C B hs _ ?_
    simp only [an38, ren_map, toks_map, boxes_map, st38, AL, An.at_, tidyV, tidyW, tidyB, tidyT, sift, envBoxes, envToks, conToks, D.toks, D.tok1, toksL, D.boxes, D.box1, boxesL, memN, posN, renE, D.ren, D.ren1, renL, renB, St.content, St.boxOk, St.tokOk, trues, T3, T4, T66, T67, T68, EL, List.replicate_succ, stepD, accs, accP, accW, simpleOp, isAl, isExt, flipD, D.fresh1, D.row, D.plain, D.plain.plainL, St.close, St.close1, St.borrow, retV, resV, resL, outCL, outC, outL, outD, wantedV, opV, An.mid, thawV, D.plainU, prune, envOf, get, put, eval, evalT, nz, argsV, capsV, ofV, binV, binV.aggV, unV, intV, eqOp, isConst, natV, optV, loadV, loadC, storeV, setC, St.at_, partV, partTy, indexAddrV, fieldAddrV, sliceV, sliceV.rowSl, sliceV.strSl, bounds, cutP, builtinV, lenV, maxL, maxV, appendV, St.elems, roomy, rowOf, rowS, isStr, esz, tdOf, convV, buildV, fillV, partsV, okParts, fillL, D.whole, D.demoteC, D.demote, demoteL, D.global, D.flat, D.leaf, D.cells, TI.agg, TD.rowish, callOpV, moveL, CC, keepB, St.borrowL, St.borrow, D.isLsl, adoptR, adoptC, adoptCL, adoptL, adopt, List.toArray, Array.toList, Nat.reduceEqDiff, Nat.reduceAdd, Nat.reduceSub, Nat.reduceMul, Nat.reduceLeDiff, Nat.reduceLT, reduceIte, reduceCtorEq, forall_const, imp_self, Int.reduceNeg, Int.reduceLT, Int.reduceLE, Int.reduceGT, Int.reduceGE, Int.reduceAdd, Int.reduceSub, Int.reduceMul, Int.reduceToNat, Int.reduceEq, ne_eq, eq_self]
    rw [← ofK_0]
    rfl
  rintro x st' ⟨rfl, ρ, rfl, h1, h2⟩
  simp only [h1, h2, AL, T3, T4, T66, T67, T68, EL, List.replicate_succ, stepD, accs, accP, accW, simpleOp, isAl, isExt, flipD, D.fresh1, D.row, D.plain, D.plain.plainL, St.close, St.close1, St.borrow, retV, resV, resL, outCL, outC, outL, outD, wantedV, opV, An.mid, thawV, D.plainU, prune, envOf, get, put, eval, evalT, nz, argsV, capsV, ofV, binV, binV.aggV, unV, intV, eqOp, isConst, natV, optV, loadV, loadC, storeV, St.at_, partV, partTy, indexAddrV, fieldAddrV, sliceV, sliceV.rowSl, sliceV.strSl, bounds, cutP, builtinV, lenV, maxL, maxV, appendV, St.elems, roomy, rowOf, rowS, isStr, esz, tdOf, convV, buildV, fillV, partsV, okParts, fillL, D.whole, D.demoteC, D.demote, demoteL, D.global, D.flat, D.leaf, D.cells, TI.agg, TD.rowish, callOpV, moveL, CC, keepB, St.borrowL, St.borrow, D.isLsl, adoptR, adoptC, adoptCL, adoptL, adopt, List.toArray, Array.toList, Nat.reduceEqDiff, Nat.reduceAdd, Nat.reduceSub, Nat.reduceMul, Nat.reduceLeDiff, Nat.reduceLT, reduceIte, reduceCtorEq, forall_const, imp_self, Int.reduceNeg, Int.reduceLT, Int.reduceLE, Int.reduceGT, Int.reduceGE, Int.reduceAdd, Int.reduceSub, Int.reduceMul, Int.reduceToNat, Int.reduceEq, ne_eq, eq_self]
theorem c38 (hC : Ref17 C) {s : Nat → Nat} (hs : Wds s) (B : Hp) : C 38 [.agg (nums .u64 16 s)] B = some (.agg (bools 1024 (mem s)), B) := hC.f38 _ _ _ (run38 C hs B)

/-! ### Set -/
theorem toLk_lt (l : Nat → Bool) {k : Nat} (h : k < 1024) : toLk l (k + 1) (k / 64) < 9223372036854775808 := by
  unfold toLk
  exact Nat.lt_of_lt_of_le (ofB_lt _ _) (Nat.pow_le_pow_right (n := 2) (by decide) (by omega : k / 64 * 64 + 64 - max (k + 1) (k / 64 * 64) ≤ 63))
theorem toL_begin (l : Nat → Bool) : nums .u64 16 (toLk l 1024) = nums .u64 16 noS := nums_ext (toLk_begin l)
theorem updA_twice {α : Type} (m : Nat → α) (a : Nat) (x y : α) : updA (updA m a x) a y = updA m a y := by
  funext i; unfold updA; split <;> rfl

def st44 (B : Hp) (l : Nat → Bool) (c : Nat) : St := ⟨[(1, .lptr 0 0), (2, .lptr 1 0), (3, .lptr 2 0), (4, .int .i64 ((c : Int) - 1))], [some (bools 1024 l), some (nums .u64 16 noS), some (nums .u64 16 (toLk l c))], [], B⟩
set_option maxRecDepth 10000 in
theorem loop44 (C : Callees) (B : Hp) (l : Nat → Bool) (st : St) (hst : an44.at_ (some 3) st = st44 B l 1024) :
    ∃ x st', loopC T an44 C lp44_0 st = some (x, st') ∧ x = .exit 0 ∧ ∃ ρ, st' = ⟨ρ, [some (bools 1024 l), some (nums .u64 16 noS), some (nums .u64 16 (toL l))], [], B⟩ ∧ get ρ 2 = .lptr 1 0 ∧ get ρ 3 = .lptr 2 0 := by
  refine loop_rule (st44 B l) (fun c => c ≤ 1024) (fun c => c) _ ?_ 1024 st hst (by omega)
  intro c hc
  rcases Nat.eq_zero_or_pos c with rfl | h
  · right
    have g0 : ¬ ((0 : Nat) : Int) - 1 ≥ 0 := by omega
    have e := toLk_end l
    simp only [st44, lp44_0, subC, atC, Tryd.f44, an44, g0, e, T3, T4, T66, T67, T68, EL, List.replicate_succ, stepD, accs, accP, accW, simpleOp, isAl, isExt, flipD, D.fresh1, D.row, D.plain, D.plain.plainL, St.close, St.close1, St.borrow, retV, resV, resL, outCL, outC, outL, outD, wantedV, opV, An.mid, thawV, D.plainU, prune, envOf, get, put, eval, evalT, nz, argsV, capsV, ofV, binV, binV.aggV, unV, intV, eqOp, isConst, natV, optV, loadV, loadC, storeV, setC, St.at_, partV, partTy, indexAddrV, fieldAddrV, sliceV, sliceV.rowSl, sliceV.strSl, bounds, cutP, builtinV, lenV, maxL, maxV, appendV, St.elems, roomy, rowOf, rowS, isStr, esz, tdOf, convV, buildV, fillV, partsV, okParts, fillL, D.whole, D.demoteC, D.demote, demoteL, D.global, D.flat, D.leaf, D.cells, TI.agg, TD.rowish, callOpV, moveL, CC, keepB, St.borrowL, St.borrow, D.isLsl, adoptR, adoptC, adoptCL, adoptL, adopt, List.toArray, Array.toList, Nat.reduceEqDiff, Nat.reduceAdd, Nat.reduceSub, Nat.reduceMul, Nat.reduceLeDiff, Nat.reduceLT, reduceIte, reduceCtorEq, forall_const, imp_self, Int.reduceNeg, Int.reduceLT, Int.reduceLE, Int.reduceGT, Int.reduceGE, Int.reduceAdd, Int.reduceSub, Int.reduceMul, Int.reduceToNat, Int.reduceEq, ne_eq, eq_self]
    exact ⟨_, _, rfl, by simp, rfl, _, rfl, rfl, rfl⟩
  · left
    obtain ⟨k, rfl⟩ : ∃ k, c = k + 1 := ⟨c - 1, by omega⟩
    have hk : k < 1024 := by omega
    refine ⟨k, ?_, by omega, by omega⟩
    have e0 : ((k + 1 : Nat) : Int) - 1 = k := by omega
    have n1 := nat0 (k / 64)
    have n2 := nat0 k
    have g0 : (k : Int) ≥ 0 := n2
    have t1 := tdiv64 k
    have h16 : k / 64 < 16 := by omega
    have w0 : IntKind.i64.wrap ((k / 64 : Nat) : Int) = ((k / 64 : Nat) : Int) := wrapI (by omega) (by omega)
    have hv := toLk_lt l hk
    have hst := toLk_step l k
    have g1 := nums_get (k := .u64) (m := toLk l (k + 1)) h16
    have w1 : IntKind.u64.wrap (2 * ((toLk l (k + 1) (k / 64) : Nat) : Int)) = ((2 * toLk l (k + 1) (k / 64) : Nat) : Int) := by rw [wrap_u64 (by omega) (by omega)]; omega
    have s1 := nums_set (k := .u64) (m := toLk l (k + 1)) (x := 2 * toLk l (k + 1) (k / 64)) h16
    have g2 := bools_get (p := l) hk
    have w2 : IntKind.i64.wrap ((k : Int) - 1) = (k : Int) - 1 := wrapI (by omega) (by omega)
    cases e : l k <;> rw [e] at g2 hst
    · simp only [cond_false, Nat.zero_add] at hst
      rw [← hst] at s1
      simp only [st44, lp44_0, subC, atC, Tryd.f44, an44, g0, e0, n1, n2, t1, w0, h16, hk, g1, w1, s1, g2, w2, AL, T3, T4, T66, T67, T68, EL, List.replicate_succ, stepD, accs, accP, accW, simpleOp, isAl, isExt, flipD, D.fresh1, D.row, D.plain, D.plain.plainL, St.close, St.close1, St.borrow, retV, resV, resL, outCL, outC, outL, outD, wantedV, opV, An.mid, thawV, D.plainU, prune, envOf, get, put, eval, evalT, nz, argsV, capsV, ofV, binV, binV.aggV, unV, intV, eqOp, isConst, natV, optV, loadV, loadC, storeV, St.at_, partV, partTy, indexAddrV, fieldAddrV, sliceV, sliceV.rowSl, sliceV.strSl, bounds, cutP, builtinV, lenV, maxL, maxV, appendV, St.elems, roomy, rowOf, rowS, isStr, esz, tdOf, convV, buildV, fillV, partsV, okParts, fillL, D.whole, D.demoteC, D.demote, demoteL, D.global, D.flat, D.leaf, D.cells, TI.agg, TD.rowish, callOpV, moveL, CC, keepB, St.borrowL, St.borrow, D.isLsl, adoptR, adoptC, adoptCL, adoptL, adopt, List.toArray, Array.toList, Nat.reduceEqDiff, Nat.reduceAdd, Nat.reduceSub, Nat.reduceMul, Nat.reduceLeDiff, Nat.reduceLT, reduceIte, reduceCtorEq, forall_const, imp_self, Int.reduceNeg, Int.reduceLT, Int.reduceLE, Int.reduceGT, Int.reduceGE, Int.reduceAdd, Int.reduceSub, Int.reduceMul, Int.reduceToNat, Int.reduceEq, ne_eq, eq_self]
      refine ⟨_, rfl, ?_⟩
      show an44.at_ (some 3) _ = _
      simp only [an44, ren_map, toks_map, boxes_map, AL, An.at_, tidyV, tidyW, tidyB, tidyT, sift, envBoxes, envToks, conToks, D.toks, D.tok1, toksL, D.boxes, D.box1, boxesL, memN, posN, renE, D.ren, D.ren1, renL, renB, St.content, St.boxOk, St.tokOk, trues, T3, T4, T66, T67, T68, EL, List.replicate_succ, stepD, accs, accP, accW, simpleOp, isAl, isExt, flipD, D.fresh1, D.row, D.plain, D.plain.plainL, St.close, St.close1, St.borrow, retV, resV, resL, outCL, outC, outL, outD, wantedV, opV, An.mid, thawV, D.plainU, prune, envOf, get, put, eval, evalT, nz, argsV, capsV, ofV, binV, binV.aggV, unV, intV, eqOp, isConst, natV, optV, loadV, loadC, storeV, setC, St.at_, partV, partTy, indexAddrV, fieldAddrV, sliceV, sliceV.rowSl, sliceV.strSl, bounds, cutP, builtinV, lenV, maxL, maxV, appendV, St.elems, roomy, rowOf, rowS, isStr, esz, tdOf, convV, buildV, fillV, partsV, okParts, fillL, D.whole, D.demoteC, D.demote, demoteL, D.global, D.flat, D.leaf, D.cells, TI.agg, TD.rowish, callOpV, moveL, CC, keepB, St.borrowL, St.borrow, D.isLsl, adoptR, adoptC, adoptCL, adoptL, adopt, List.toArray, Array.toList, Nat.reduceEqDiff, Nat.reduceAdd, Nat.reduceSub, Nat.reduceMul, Nat.reduceLeDiff, Nat.reduceLT, reduceIte, reduceCtorEq, forall_const, imp_self, Int.reduceNeg, Int.reduceLT, Int.reduceLE, Int.reduceGT, Int.reduceGE, Int.reduceAdd, Int.reduceSub, Int.reduceMul, Int.reduceToNat, Int.reduceEq, ne_eq, eq_self]
    · simp only [cond_true] at hst
      have e1 : 1 + 2 * toLk l (k + 1) (k / 64) = 2 * toLk l (k + 1) (k / 64) + 1 := by omega
      rw [e1] at hst
      have g3 := nums_get (k := .u64) (m := updA (toLk l (k + 1)) (k / 64) (2 * toLk l (k + 1) (k / 64))) h16
      rw [updA_same] at g3
      have s2 := nums_set (k := .u64) (m := updA (toLk l (k + 1)) (k / 64) (2 * toLk l (k + 1) (k / 64))) (x := 2 * toLk l (k + 1) (k / 64) + 1) h16
      rw [updA_twice, ← hst] at s2
      have w3 : IntKind.u64.wrap (((2 * toLk l (k + 1) (k / 64) : Nat) : Int) + 1) = ((2 * toLk l (k + 1) (k / 64) + 1 : Nat) : Int) := by rw [wrap_u64 (by omega) (by omega)]; omega
      simp only [st44, lp44_0, subC, atC, Tryd.f44, an44, g0, e0, n1, n2, t1, w0, h16, hk, g1, w1, s1, g2, w2, g3, s2, w3, AL, T3, T4, T66, T67, T68, EL, List.replicate_succ, stepD, accs, accP, accW, simpleOp, isAl, isExt, flipD, D.fresh1, D.row, D.plain, D.plain.plainL, St.close, St.close1, St.borrow, retV, resV, resL, outCL, outC, outL, outD, wantedV, opV, An.mid, thawV, D.plainU, prune, envOf, get, put, eval, evalT, nz, argsV, capsV, ofV, binV, binV.aggV, unV, intV, eqOp, isConst, natV, optV, loadV, loadC, storeV, St.at_, partV, partTy, indexAddrV, fieldAddrV, sliceV, sliceV.rowSl, sliceV.strSl, bounds, cutP, builtinV, lenV, maxL, maxV, appendV, St.elems, roomy, rowOf, rowS, isStr, esz, tdOf, convV, buildV, fillV, partsV, okParts, fillL, D.whole, D.demoteC, D.demote, demoteL, D.global, D.flat, D.leaf, D.cells, TI.agg, TD.rowish, callOpV, moveL, CC, keepB, St.borrowL, St.borrow, D.isLsl, adoptR, adoptC, adoptCL, adoptL, adopt, List.toArray, Array.toList, Nat.reduceEqDiff, Nat.reduceAdd, Nat.reduceSub, Nat.reduceMul, Nat.reduceLeDiff, Nat.reduceLT, reduceIte, reduceCtorEq, forall_const, imp_self, Int.reduceNeg, Int.reduceLT, Int.reduceLE, Int.reduceGT, Int.reduceGE, Int.reduceAdd, Int.reduceSub, Int.reduceMul, Int.reduceToNat, Int.reduceEq, ne_eq, eq_self]
      refine ⟨_, rfl, ?_⟩
      show an44.at_ (some 3) _ = _
      simp only [an44, ren_map, toks_map, boxes_map, AL, An.at_, tidyV, tidyW, tidyB, tidyT, sift, envBoxes, envToks, conToks, D.toks, D.tok1, toksL, D.boxes, D.box1, boxesL, memN, posN, renE, D.ren, D.ren1, renL, renB, St.content, St.boxOk, St.tokOk, trues, T3, T4, T66, T67, T68, EL, List.replicate_succ, stepD, accs, accP, accW, simpleOp, isAl, isExt, flipD, D.fresh1, D.row, D.plain, D.plain.plainL, St.close, St.close1, St.borrow, retV, resV, resL, outCL, outC, outL, outD, wantedV, opV, An.mid, thawV, D.plainU, prune, envOf, get, put, eval, evalT, nz, argsV, capsV, ofV, binV, binV.aggV, unV, intV, eqOp, isConst, natV, optV, loadV, loadC, storeV, setC, St.at_, partV, partTy, indexAddrV, fieldAddrV, sliceV, sliceV.rowSl, sliceV.strSl, bounds, cutP, builtinV, lenV, maxL, maxV, appendV, St.elems, roomy, rowOf, rowS, isStr, esz, tdOf, convV, buildV, fillV, partsV, okParts, fillL, D.whole, D.demoteC, D.demote, demoteL, D.global, D.flat, D.leaf, D.cells, TI.agg, TD.rowish, callOpV, moveL, CC, keepB, St.borrowL, St.borrow, D.isLsl, adoptR, adoptC, adoptCL, adoptL, adopt, List.toArray, Array.toList, Nat.reduceEqDiff, Nat.reduceAdd, Nat.reduceSub, Nat.reduceMul, Nat.reduceLeDiff, Nat.reduceLT, reduceIte, reduceCtorEq, forall_const, imp_self, Int.reduceNeg, Int.reduceLT, Int.reduceLE, Int.reduceGT, Int.reduceGE, Int.reduceAdd, Int.reduceSub, Int.reduceMul, Int.reduceToNat, Int.reduceEq, ne_eq, eq_self]

set_option maxRecDepth 10000 in
theorem run44 (C : Callees) (l : Nat → Bool) (B : Hp) : runV T C fi44 [lD l] B = some (sD (toL l), B) := by
  rw [e_run _ _ _ rfl]
  simp only [fi44, Tryd.f44, an44, AL, T3, T4, T66, T67, T68, EL, List.replicate_succ, stepD, accs, accP, accW, simpleOp, isAl, isExt, flipD, D.fresh1, D.row, D.plain, D.plain.plainL, St.close, St.close1, St.borrow, retV, resV, resL, outCL, outC, outL, outD, wantedV, opV, An.mid, thawV, D.plainU, prune, envOf, get, put, eval, evalT, nz, argsV, capsV, ofV, binV, binV.aggV, unV, intV, eqOp, isConst, natV, optV, loadV, loadC, storeV, St.at_, partV, partTy, indexAddrV, fieldAddrV, sliceV, sliceV.rowSl, sliceV.strSl, bounds, cutP, builtinV, lenV, maxL, maxV, appendV, St.elems, roomy, rowOf, rowS, isStr, esz, tdOf, convV, buildV, fillV, partsV, okParts, fillL, D.whole, D.demoteC, D.demote, demoteL, D.global, D.flat, D.leaf, D.cells, TI.agg, TD.rowish, callOpV, moveL, CC, keepB, St.borrowL, St.borrow, D.isLsl, adoptR, adoptC, adoptCL, adoptL, adopt, List.toArray, Array.toList, Nat.reduceEqDiff, Nat.reduceAdd, Nat.reduceSub, Nat.reduceMul, Nat.reduceLeDiff, Nat.reduceLT, reduceIte, reduceCtorEq, forall_const, imp_self, Int.reduceNeg, Int.reduceLT, Int.reduceLE, Int.reduceGT, Int.reduceGE, Int.reduceAdd, Int.reduceSub, Int.reduceMul, Int.reduceToNat, Int.reduceEq, ne_eq, eq_self]
  refine' in_loop (c' := lp44_0) (fin T _ _ _) ?h rfl ?q
  case h =>
    refine loop44 C B l _ ?_
    have e := toL_begin l
    simp only [an44, ren_map, toks_map, boxes_map, st44, e, AL, An.at_, tidyV, tidyW, tidyB, tidyT, sift, envBoxes, envToks, conToks, D.toks, D.tok1, toksL, D.boxes, D.box1, boxesL, memN, posN, renE, D.ren, D.ren1, renL, renB, St.content, St.boxOk, St.tokOk, trues, T3, T4, T66, T67, T68, EL, List.replicate_succ, stepD, accs, accP, accW, simpleOp, isAl, isExt, flipD, D.fresh1, D.row, D.plain, D.plain.plainL, St.close, St.close1, St.borrow, retV, resV, resL, outCL, outC, outL, outD, wantedV, opV, An.mid, thawV, D.plainU, prune, envOf, get, put, eval, evalT, nz, argsV, capsV, ofV, binV, binV.aggV, unV, intV, eqOp, isConst, natV, optV, loadV, loadC, storeV, setC, St.at_, partV, partTy, indexAddrV, fieldAddrV, sliceV, sliceV.rowSl, sliceV.strSl, bounds, cutP, builtinV, lenV, maxL, maxV, appendV, St.elems, roomy, rowOf, rowS, isStr, esz, tdOf, convV, buildV, fillV, partsV, okParts, fillL, D.whole, D.demoteC, D.demote, demoteL, D.global, D.flat, D.leaf, D.cells, TI.agg, TD.rowish, callOpV, moveL, CC, keepB, St.borrowL, St.borrow, D.isLsl, adoptR, adoptC, adoptCL, adoptL, adopt, List.toArray, Array.toList, Nat.reduceEqDiff, Nat.reduceAdd, Nat.reduceSub, Nat.reduceMul, Nat.reduceLeDiff, Nat.reduceLT, reduceIte, reduceCtorEq, forall_const, imp_self, Int.reduceNeg, Int.reduceLT, Int.reduceLE, Int.reduceGT, Int.reduceGE, Int.reduceAdd, Int.reduceSub, Int.reduceMul, Int.reduceToNat, Int.reduceEq, ne_eq, eq_self]
    rfl
  rintro x st' ⟨rfl, ρ, rfl, h1, h2⟩
  simp only [h1, h2, AL, T3, T4, T66, T67, T68, EL, List.replicate_succ, stepD, accs, accP, accW, simpleOp, isAl, isExt, flipD, D.fresh1, D.row, D.plain, D.plain.plainL, St.close, St.close1, St.borrow, retV, resV, resL, outCL, outC, outL, outD, wantedV, opV, An.mid, thawV, D.plainU, prune, envOf, get, put, eval, evalT, nz, argsV, capsV, ofV, binV, binV.aggV, unV, intV, eqOp, isConst, natV, optV, loadV, loadC, storeV, St.at_, partV, partTy, indexAddrV, fieldAddrV, sliceV, sliceV.rowSl, sliceV.strSl, bounds, cutP, builtinV, lenV, maxL, maxV, appendV, St.elems, roomy, rowOf, rowS, isStr, esz, tdOf, convV, buildV, fillV, partsV, okParts, fillL, D.whole, D.demoteC, D.demote, demoteL, D.global, D.flat, D.leaf, D.cells, TI.agg, TD.rowish, callOpV, moveL, CC, keepB, St.borrowL, St.borrow, D.isLsl, adoptR, adoptC, adoptCL, adoptL, adopt, List.toArray, Array.toList, Nat.reduceEqDiff, Nat.reduceAdd, Nat.reduceSub, Nat.reduceMul, Nat.reduceLeDiff, Nat.reduceLT, reduceIte, reduceCtorEq, forall_const, imp_self, Int.reduceNeg, Int.reduceLT, Int.reduceLE, Int.reduceGT, Int.reduceGE, Int.reduceAdd, Int.reduceSub, Int.reduceMul, Int.reduceToNat, Int.reduceEq, ne_eq, eq_self]
theorem c44 (hC : Ref17 C) (l : Nat → Bool) (B : Hp) : C 44 [.agg (bools 1024 l)] B = some (.agg (nums .u64 16 (toL l)), B) := hC.f44 _ _ _ (run44 C l B)

/-! ### All -/
def st40 (B : Hp) (l : Nat → Bool) (x : Nat × Bool) : St := ⟨[(1, .lptr 0 0), (3, .vec 1 ((lst l x.1).map intD) (pm x.2)), (4, .int .i64 x.1)], [some (bools 1024 l)], tk x.2, B⟩
set_option maxRecDepth 10000 in
theorem loop40 (C : Callees) (B : Hp) (l : Nat → Bool) (st : St) (hst : an40.at_ (some 3) st = st40 B l (0, false)) :
    ∃ x st', loopC T an40 C lp40_0 st = some (x, st') ∧ x = .exit 0 ∧ ∃ ρ L b, st' = ⟨ρ, L, tk b, B⟩ ∧ (b = false → lst l 1024 = []) ∧ get ρ 3 = .vec 1 ((lst l 1024).map intD) (pm b) := by
  refine loop_rule (st40 B l) (fun x => x.1 ≤ 1024 ∧ (x.2 = false → lst l x.1 = [])) (fun x => 1024 - x.1) _ ?_ (0, false) st hst ⟨by simp, fun _ => rfl⟩
  rintro ⟨i, b⟩ ⟨hi, hb⟩
  simp only at hi hb
  rcases Nat.lt_or_ge i 1024 with h | h
  · left
    have g0 : (i : Int) < 1024 := by omega
    have w1 : IntKind.i64.wrap ((i : Int) + 1) = ((i + 1 : Nat) : Int) := by rw [wrapI (by omega) (by omega)]; rfl
    have n1 := nat0 i
    have g1 := bools_get (p := l) h
    have hsucc := lst_succ l i
    cases e : l i <;> rw [e] at g1 hsucc
    · have hsucc : lst l (i + 1) = lst l i := hsucc
      refine ⟨(i + 1, b), ?_, ⟨by show i + 1 ≤ 1024; omega, by rw [hsucc]; exact hb⟩, by show 1024 - (i + 1) < 1024 - i; omega⟩
      simp only [st40, lp40_0, subC, atC, Tryd.f40, an40, g0, w1, n1, h, g1, hsucc, AL, T3, T4, T68, T70, EL, List.replicate_succ, stepD, accs, accP, accW, simpleOp, isAl, isExt, flipD, D.fresh1, D.row, D.plain, D.plain.plainL, St.close, St.close1, St.borrow, retV, resV, resL, outCL, outC, outL, outD, wantedV, opV, An.mid, thawV, D.plainU, prune, envOf, get, put, eval, evalT, nz, argsV, capsV, ofV, binV, binV.aggV, unV, intV, eqOp, isConst, natV, optV, loadV, loadC, storeV, setC, St.at_, partV, partTy, indexAddrV, fieldAddrV, sliceV, sliceV.rowSl, sliceV.strSl, bounds, cutP, builtinV, lenV, maxL, maxV, St.elems, roomy, rowOf, rowS, isStr, esz, tdOf, convV, buildV, fillV, partsV, okParts, fillL, D.whole, D.demoteC, D.demote, demoteL, D.global, D.flat, D.leaf, D.cells, TI.agg, TD.rowish, callOpV, moveL, CC, keepB, St.borrowL, St.borrow, D.isLsl, adoptR, adoptC, adoptCL, adoptL, adopt, List.toArray, Array.toList, Nat.reduceEqDiff, Nat.reduceAdd, Nat.reduceSub, Nat.reduceMul, Nat.reduceLeDiff, Nat.reduceLT, reduceIte, reduceCtorEq, forall_const, imp_self, Int.reduceNeg, Int.reduceLT, Int.reduceLE, Int.reduceGT, Int.reduceGE, Int.reduceAdd, Int.reduceSub, Int.reduceMul, Int.reduceToNat, Int.reduceEq, ne_eq, eq_self]
      refine ⟨_, rfl, ?_⟩
      show an40.at_ (some 3) _ = _
      cases b <;>
      simp only [an40, ren_map, toks_map, boxes_map, pm, tk, AL, An.at_, tidyV, tidyW, tidyB, tidyT, sift, envBoxes, envToks, conToks, D.toks, D.tok1, toksL, D.boxes, D.box1, boxesL, memN, posN, renE, D.ren, D.ren1, renL, renB, St.content, St.boxOk, St.tokOk, trues, T3, T4, T68, T70, EL, List.replicate_succ, stepD, accs, accP, accW, simpleOp, isAl, isExt, flipD, D.fresh1, D.row, D.plain, D.plain.plainL, St.close, St.close1, St.borrow, retV, resV, resL, outCL, outC, outL, outD, wantedV, opV, An.mid, thawV, D.plainU, prune, envOf, get, put, eval, evalT, nz, argsV, capsV, ofV, binV, binV.aggV, unV, intV, eqOp, isConst, natV, optV, loadV, loadC, storeV, setC, St.at_, partV, partTy, indexAddrV, fieldAddrV, sliceV, sliceV.rowSl, sliceV.strSl, bounds, cutP, builtinV, lenV, maxL, maxV, appendV, St.elems, roomy, rowOf, rowS, isStr, esz, tdOf, convV, buildV, fillV, partsV, okParts, fillL, D.whole, D.demoteC, D.demote, demoteL, D.global, D.flat, D.leaf, D.cells, TI.agg, TD.rowish, callOpV, moveL, CC, keepB, St.borrowL, St.borrow, D.isLsl, adoptR, adoptC, adoptCL, adoptL, adopt, List.toArray, Array.toList, Nat.reduceEqDiff, Nat.reduceAdd, Nat.reduceSub, Nat.reduceMul, Nat.reduceLeDiff, Nat.reduceLT, reduceIte, reduceCtorEq, forall_const, imp_self, Int.reduceNeg, Int.reduceLT, Int.reduceLE, Int.reduceGT, Int.reduceGE, Int.reduceAdd, Int.reduceSub, Int.reduceMul, Int.reduceToNat, Int.reduceEq, ne_eq, eq_self]
    · have hsucc : lst l (i + 1) = lst l i ++ [i] := hsucc
      refine ⟨(i + 1, true), ?_, ⟨by show i + 1 ≤ 1024; omega, fun h => by cases h⟩, by show 1024 - (i + 1) < 1024 - i; omega⟩
      have hlen : (lst l i).length + 1 ≤ 100000 := by rw [lst_len]; have := cntB_le i l; omega
      have a1 := fun ρ M B => app_int (b := b) i hlen hb ρ M B
      rw [← hsucc] at a1
      cases b
      · have h40 := hb rfl
        have a2 : ∀ ρ M B, appendV 1 8 ⟨ρ, M, [], B⟩ (.vec 1 [] .exact) [.int .i64 (i : Int)] = some (.vec 1 ((lst l (i + 1)).map intD) (.own 0), ⟨ρ, M, [true], B⟩) := fun ρ M B => by
          have := a1 ρ M B
          rw [h40] at this; exact this
        simp only [st40, lp40_0, subC, atC, Tryd.f40, an40, g0, w1, n1, h, g1, h40, a2, AL, T3, T4, T68, T70, EL, List.replicate_succ, stepD, accs, accP, accW, simpleOp, isAl, isExt, flipD, D.fresh1, D.row, D.plain, D.plain.plainL, St.close, St.close1, St.borrow, retV, resV, resL, outCL, outC, outL, outD, wantedV, opV, An.mid, thawV, D.plainU, prune, envOf, get, put, eval, evalT, nz, argsV, capsV, ofV, binV, binV.aggV, unV, intV, eqOp, isConst, natV, optV, loadV, loadC, storeV, setC, St.at_, partV, partTy, indexAddrV, fieldAddrV, sliceV, sliceV.rowSl, sliceV.strSl, bounds, cutP, builtinV, lenV, maxL, maxV, St.elems, roomy, rowOf, rowS, isStr, esz, tdOf, convV, buildV, fillV, partsV, okParts, fillL, D.whole, D.demoteC, D.demote, demoteL, D.global, D.flat, D.leaf, D.cells, TI.agg, TD.rowish, callOpV, moveL, CC, keepB, St.borrowL, St.borrow, D.isLsl, adoptR, adoptC, adoptCL, adoptL, adopt, List.toArray, Array.toList, Nat.reduceEqDiff, Nat.reduceAdd, Nat.reduceSub, Nat.reduceMul, Nat.reduceLeDiff, Nat.reduceLT, reduceIte, reduceCtorEq, forall_const, imp_self, Int.reduceNeg, Int.reduceLT, Int.reduceLE, Int.reduceGT, Int.reduceGE, Int.reduceAdd, Int.reduceSub, Int.reduceMul, Int.reduceToNat, Int.reduceEq, ne_eq, eq_self]
        refine ⟨_, rfl, ?_⟩
        show an40.at_ (some 3) _ = _
        simp only [an40, ren_map, toks_map, boxes_map, pm, tk, AL, An.at_, tidyV, tidyW, tidyB, tidyT, sift, envBoxes, envToks, conToks, D.toks, D.tok1, toksL, D.boxes, D.box1, boxesL, memN, posN, renE, D.ren, D.ren1, renL, renB, St.content, St.boxOk, St.tokOk, trues, T3, T4, T68, T70, EL, List.replicate_succ, stepD, accs, accP, accW, simpleOp, isAl, isExt, flipD, D.fresh1, D.row, D.plain, D.plain.plainL, St.close, St.close1, St.borrow, retV, resV, resL, outCL, outC, outL, outD, wantedV, opV, An.mid, thawV, D.plainU, prune, envOf, get, put, eval, evalT, nz, argsV, capsV, ofV, binV, binV.aggV, unV, intV, eqOp, isConst, natV, optV, loadV, loadC, storeV, setC, St.at_, partV, partTy, indexAddrV, fieldAddrV, sliceV, sliceV.rowSl, sliceV.strSl, bounds, cutP, builtinV, lenV, maxL, maxV, appendV, St.elems, roomy, rowOf, rowS, isStr, esz, tdOf, convV, buildV, fillV, partsV, okParts, fillL, D.whole, D.demoteC, D.demote, demoteL, D.global, D.flat, D.leaf, D.cells, TI.agg, TD.rowish, callOpV, moveL, CC, keepB, St.borrowL, St.borrow, D.isLsl, adoptR, adoptC, adoptCL, adoptL, adopt, List.toArray, Array.toList, Nat.reduceEqDiff, Nat.reduceAdd, Nat.reduceSub, Nat.reduceMul, Nat.reduceLeDiff, Nat.reduceLT, reduceIte, reduceCtorEq, forall_const, imp_self, Int.reduceNeg, Int.reduceLT, Int.reduceLE, Int.reduceGT, Int.reduceGE, Int.reduceAdd, Int.reduceSub, Int.reduceMul, Int.reduceToNat, Int.reduceEq, ne_eq, eq_self]
      · have a2 : ∀ ρ M B, appendV 1 8 ⟨ρ, M, [true], B⟩ (.vec 1 ((lst l i).map intD) (.own 0)) [.int .i64 (i : Int)] = some (.vec 1 ((lst l (i + 1)).map intD) (.own 1), ⟨ρ, M, [false, true], B⟩) := a1
        simp only [st40, lp40_0, subC, atC, Tryd.f40, an40, g0, w1, n1, h, g1, a2, AL, T3, T4, T68, T70, EL, List.replicate_succ, stepD, accs, accP, accW, simpleOp, isAl, isExt, flipD, D.fresh1, D.row, D.plain, D.plain.plainL, St.close, St.close1, St.borrow, retV, resV, resL, outCL, outC, outL, outD, wantedV, opV, An.mid, thawV, D.plainU, prune, envOf, get, put, eval, evalT, nz, argsV, capsV, ofV, binV, binV.aggV, unV, intV, eqOp, isConst, natV, optV, loadV, loadC, storeV, setC, St.at_, partV, partTy, indexAddrV, fieldAddrV, sliceV, sliceV.rowSl, sliceV.strSl, bounds, cutP, builtinV, lenV, maxL, maxV, St.elems, roomy, rowOf, rowS, isStr, esz, tdOf, convV, buildV, fillV, partsV, okParts, fillL, D.whole, D.demoteC, D.demote, demoteL, D.global, D.flat, D.leaf, D.cells, TI.agg, TD.rowish, callOpV, moveL, CC, keepB, St.borrowL, St.borrow, D.isLsl, adoptR, adoptC, adoptCL, adoptL, adopt, List.toArray, Array.toList, Nat.reduceEqDiff, Nat.reduceAdd, Nat.reduceSub, Nat.reduceMul, Nat.reduceLeDiff, Nat.reduceLT, reduceIte, reduceCtorEq, forall_const, imp_self, Int.reduceNeg, Int.reduceLT, Int.reduceLE, Int.reduceGT, Int.reduceGE, Int.reduceAdd, Int.reduceSub, Int.reduceMul, Int.reduceToNat, Int.reduceEq, ne_eq, eq_self]
        refine ⟨_, rfl, ?_⟩
        show an40.at_ (some 3) _ = _
        simp only [an40, ren_map, toks_map, boxes_map, pm, tk, AL, An.at_, tidyV, tidyW, tidyB, tidyT, sift, envBoxes, envToks, conToks, D.toks, D.tok1, toksL, D.boxes, D.box1, boxesL, memN, posN, renE, D.ren, D.ren1, renL, renB, St.content, St.boxOk, St.tokOk, trues, T3, T4, T68, T70, EL, List.replicate_succ, stepD, accs, accP, accW, simpleOp, isAl, isExt, flipD, D.fresh1, D.row, D.plain, D.plain.plainL, St.close, St.close1, St.borrow, retV, resV, resL, outCL, outC, outL, outD, wantedV, opV, An.mid, thawV, D.plainU, prune, envOf, get, put, eval, evalT, nz, argsV, capsV, ofV, binV, binV.aggV, unV, intV, eqOp, isConst, natV, optV, loadV, loadC, storeV, setC, St.at_, partV, partTy, indexAddrV, fieldAddrV, sliceV, sliceV.rowSl, sliceV.strSl, bounds, cutP, builtinV, lenV, maxL, maxV, appendV, St.elems, roomy, rowOf, rowS, isStr, esz, tdOf, convV, buildV, fillV, partsV, okParts, fillL, D.whole, D.demoteC, D.demote, demoteL, D.global, D.flat, D.leaf, D.cells, TI.agg, TD.rowish, callOpV, moveL, CC, keepB, St.borrowL, St.borrow, D.isLsl, adoptR, adoptC, adoptCL, adoptL, adopt, List.toArray, Array.toList, Nat.reduceEqDiff, Nat.reduceAdd, Nat.reduceSub, Nat.reduceMul, Nat.reduceLeDiff, Nat.reduceLT, reduceIte, reduceCtorEq, forall_const, imp_self, Int.reduceNeg, Int.reduceLT, Int.reduceLE, Int.reduceGT, Int.reduceGE, Int.reduceAdd, Int.reduceSub, Int.reduceMul, Int.reduceToNat, Int.reduceEq, ne_eq, eq_self]
  · right
    obtain rfl : i = 1024 := by omega
    have g0 : ¬ ((1024 : Nat) : Int) < 1024 := by omega
    simp only [st40, lp40_0, subC, atC, Tryd.f40, an40, g0, T3, T4, T68, T70, EL, List.replicate_succ, stepD, accs, accP, accW, simpleOp, isAl, isExt, flipD, D.fresh1, D.row, D.plain, D.plain.plainL, St.close, St.close1, St.borrow, retV, resV, resL, outCL, outC, outL, outD, wantedV, opV, An.mid, thawV, D.plainU, prune, envOf, get, put, eval, evalT, nz, argsV, capsV, ofV, binV, binV.aggV, unV, intV, eqOp, isConst, natV, optV, loadV, loadC, storeV, setC, St.at_, partV, partTy, indexAddrV, fieldAddrV, sliceV, sliceV.rowSl, sliceV.strSl, bounds, cutP, builtinV, lenV, maxL, maxV, appendV, St.elems, roomy, rowOf, rowS, isStr, esz, tdOf, convV, buildV, fillV, partsV, okParts, fillL, D.whole, D.demoteC, D.demote, demoteL, D.global, D.flat, D.leaf, D.cells, TI.agg, TD.rowish, callOpV, moveL, CC, keepB, St.borrowL, St.borrow, D.isLsl, adoptR, adoptC, adoptCL, adoptL, adopt, List.toArray, Array.toList, Nat.reduceEqDiff, Nat.reduceAdd, Nat.reduceSub, Nat.reduceMul, Nat.reduceLeDiff, Nat.reduceLT, reduceIte, reduceCtorEq, forall_const, imp_self, Int.reduceNeg, Int.reduceLT, Int.reduceLE, Int.reduceGT, Int.reduceGE, Int.reduceAdd, Int.reduceSub, Int.reduceMul, Int.reduceToNat, Int.reduceEq, ne_eq, eq_self]
    exact ⟨_, _, rfl, by simp, rfl, _, _, b, rfl, hb, rfl⟩

set_option maxRecDepth 10000 in
theorem run40 (C : Callees) (l : Nat → Bool) (B : Hp) : runV T C fi40 [lD l] B = some (.vec 1 ((lst l 1024).map intD) .fresh, B) := by
  rw [e_run _ _ _ rfl]
  simp only [fi40, Tryd.f40, an40, AL, T3, T4, T68, T70, EL, List.replicate_succ, stepD, accs, accP, accW, simpleOp, isAl, isExt, flipD, D.fresh1, D.row, D.plain, D.plain.plainL, St.close, St.close1, St.borrow, retV, resV, resL, outCL, outC, outL, outD, wantedV, opV, An.mid, thawV, D.plainU, prune, envOf, get, put, eval, evalT, nz, argsV, capsV, ofV, binV, binV.aggV, unV, intV, eqOp, isConst, natV, optV, loadV, loadC, storeV, St.at_, partV, partTy, indexAddrV, fieldAddrV, sliceV, sliceV.rowSl, sliceV.strSl, bounds, cutP, builtinV, lenV, maxL, maxV, appendV, St.elems, roomy, rowOf, rowS, isStr, esz, tdOf, convV, buildV, fillV, partsV, okParts, fillL, D.whole, D.demoteC, D.demote, demoteL, D.global, D.flat, D.leaf, D.cells, TI.agg, TD.rowish, callOpV, moveL, CC, keepB, St.borrowL, St.borrow, D.isLsl, adoptR, adoptC, adoptCL, adoptL, adopt, List.toArray, Array.toList, Nat.reduceEqDiff, Nat.reduceAdd, Nat.reduceSub, Nat.reduceMul, Nat.reduceLeDiff, Nat.reduceLT, reduceIte, reduceCtorEq, forall_const, imp_self, Int.reduceNeg, Int.reduceLT, Int.reduceLE, Int.reduceGT, Int.reduceGE, Int.reduceAdd, Int.reduceSub, Int.reduceMul, Int.reduceToNat, Int.reduceEq, ne_eq, eq_self]
  refine' in_loop (c' := lp40_0) (fin T _ _ _) ?h rfl ?q
  case h =>
    refine loop40 C B l _ ?_
    simp only [an40, ren_map, toks_map, boxes_map, st40, pm, tk, AL, An.at_, tidyV, tidyW, tidyB, tidyT, sift, envBoxes, envToks, conToks, D.toks, D.tok1, toksL, D.boxes, D.box1, boxesL, memN, posN, renE, D.ren, D.ren1, renL, renB, St.content, St.boxOk, St.tokOk, trues, T3, T4, T68, T70, EL, List.replicate_succ, stepD, accs, accP, accW, simpleOp, isAl, isExt, flipD, D.fresh1, D.row, D.plain, D.plain.plainL, St.close, St.close1, St.borrow, retV, resV, resL, outCL, outC, outL, outD, wantedV, opV, An.mid, thawV, D.plainU, prune, envOf, get, put, eval, evalT, nz, argsV, capsV, ofV, binV, binV.aggV, unV, intV, eqOp, isConst, natV, optV, loadV, loadC, storeV, setC, St.at_, partV, partTy, indexAddrV, fieldAddrV, sliceV, sliceV.rowSl, sliceV.strSl, bounds, cutP, builtinV, lenV, maxL, maxV, appendV, St.elems, roomy, rowOf, rowS, isStr, esz, tdOf, convV, buildV, fillV, partsV, okParts, fillL, D.whole, D.demoteC, D.demote, demoteL, D.global, D.flat, D.leaf, D.cells, TI.agg, TD.rowish, callOpV, moveL, CC, keepB, St.borrowL, St.borrow, D.isLsl, adoptR, adoptC, adoptCL, adoptL, adopt, List.toArray, Array.toList, Nat.reduceEqDiff, Nat.reduceAdd, Nat.reduceSub, Nat.reduceMul, Nat.reduceLeDiff, Nat.reduceLT, reduceIte, reduceCtorEq, forall_const, imp_self, Int.reduceNeg, Int.reduceLT, Int.reduceLE, Int.reduceGT, Int.reduceGE, Int.reduceAdd, Int.reduceSub, Int.reduceMul, Int.reduceToNat, Int.reduceEq, ne_eq, eq_self]
    rfl
  rintro x st' ⟨rfl, ρ, L, b, rfl, hb, h1⟩
  cases b
  · have h0 := hb rfl
    rw [h0] at h1 ⊢
    simp only [h1, pm, tk, T3, T4, T68, T70, EL, List.replicate_succ, stepD, accs, accP, accW, simpleOp, isAl, isExt, flipD, D.fresh1, D.row, D.plain, D.plain.plainL, St.close, St.close1, St.borrow, retV, resV, resL, outCL, outC, outL, outD, wantedV, opV, An.mid, thawV, D.plainU, prune, envOf, get, put, eval, evalT, nz, argsV, capsV, ofV, binV, binV.aggV, unV, intV, eqOp, isConst, natV, optV, loadV, loadC, storeV, setC, St.at_, partV, partTy, indexAddrV, fieldAddrV, sliceV, sliceV.rowSl, sliceV.strSl, bounds, cutP, builtinV, lenV, maxL, maxV, appendV, St.elems, roomy, rowOf, rowS, isStr, esz, tdOf, convV, buildV, fillV, partsV, okParts, fillL, D.whole, D.demoteC, D.demote, demoteL, D.global, D.flat, D.leaf, D.cells, TI.agg, TD.rowish, callOpV, moveL, CC, keepB, St.borrowL, St.borrow, D.isLsl, adoptR, adoptC, adoptCL, adoptL, adopt, List.toArray, Array.toList, Nat.reduceEqDiff, Nat.reduceAdd, Nat.reduceSub, Nat.reduceMul, Nat.reduceLeDiff, Nat.reduceLT, reduceIte, reduceCtorEq, forall_const, imp_self, Int.reduceNeg, Int.reduceLT, Int.reduceLE, Int.reduceGT, Int.reduceGE, Int.reduceAdd, Int.reduceSub, Int.reduceMul, Int.reduceToNat, Int.reduceEq, ne_eq, eq_self]
  · simp only [h1, pm, tk, T3, T4, T68, T70, EL, List.replicate_succ, stepD, accs, accP, accW, simpleOp, isAl, isExt, flipD, D.fresh1, D.row, D.plain, D.plain.plainL, St.close, St.close1, St.borrow, retV, resV, resL, outCL, outC, outL, outD, wantedV, opV, An.mid, thawV, D.plainU, prune, envOf, get, put, eval, evalT, nz, argsV, capsV, ofV, binV, binV.aggV, unV, intV, eqOp, isConst, natV, optV, loadV, loadC, storeV, setC, St.at_, partV, partTy, indexAddrV, fieldAddrV, sliceV, sliceV.rowSl, sliceV.strSl, bounds, cutP, builtinV, lenV, maxL, maxV, appendV, St.elems, roomy, rowOf, rowS, isStr, esz, tdOf, convV, buildV, fillV, partsV, okParts, fillL, D.whole, D.demoteC, D.demote, demoteL, D.global, D.flat, D.leaf, D.cells, TI.agg, TD.rowish, callOpV, moveL, CC, keepB, St.borrowL, St.borrow, D.isLsl, adoptR, adoptC, adoptCL, adoptL, adopt, List.toArray, Array.toList, Nat.reduceEqDiff, Nat.reduceAdd, Nat.reduceSub, Nat.reduceMul, Nat.reduceLeDiff, Nat.reduceLT, reduceIte, reduceCtorEq, forall_const, imp_self, Int.reduceNeg, Int.reduceLT, Int.reduceLE, Int.reduceGT, Int.reduceGE, Int.reduceAdd, Int.reduceSub, Int.reduceMul, Int.reduceToNat, Int.reduceEq, ne_eq, eq_self]
theorem c40 (hC : Ref17 C) (l : Nat → Bool) (B : Hp) : C 40 [.agg (bools 1024 l)] B = some (.vec 1 ((lst l 1024).map intD) .fresh, B) := hC.f40 _ _ _ (run40 C l B)

end Go.Proofs.YtbbbhalmlboapaaDoor.V
