/-
Layer 26: RightsTells.
-/
import Derived.Test.YtbbbhalmlboapaaDoorLB
namespace Go.Proofs.YtbbbhalmlboapaaDoor.V
open Go Go.RowKit
set_option linter.unusedSimpArgs false
set_option linter.unusedVariables false

/-! warren/warrenlaw26.RightsTells -/
def an3 : An := ⟨fun | 10 => some [0, 1, 7, 8, 9, 10, 11, 12, 13, 14, 15, 16, 17, 18] | _ => .none, fun _ => 0, fun _ => false, fun _ => .none⟩
noncomputable def fi3 : FI := ⟨3, 128, Tryd.f3.body.getD .skip, Tryd.f3.results.toList, an3, false, false, false⟩
theorem ok3 : FnOk Tryd.prog 3 fi3 := ⟨⟨Tryd.f3, Tryd.func3, by kernel_rfl, rfl, rfl, rfl⟩, by decide, by kernel_rfl, fun h => by cases h⟩
noncomputable def lp3_0 : Code := subC [1, 1, 1, 1, 1, 1, 1, 1, 0, 1, 0, 0] (Tryd.f3.body.getD .skip)   -- head 10 keep [0, 1, 7, 8, 9, 10, 11, 12, 13, 14, 15, 16, 17, 18]

variable {C : Callees}

def bR (v k : Nat) : Nat := (bitsR v).getD k 0
def sumR (v k : Nat) : Nat := (((bitsR v).take k).map (2 ^ ·)).sum
set_option maxRecDepth 100000 in
theorem sum_step : ∀ v, v < 64 → ∀ k, k < (bitsR v).length → sumR v k < 2 ^ bR v k ∧ sumR v (k + 1) = sumR v k + 2 ^ bR v k ∧ sumR v (k + 1) < 64 ∧ 0 < 2 ^ bR v k := by decide +kernel
set_option maxRecDepth 100000 in
theorem sum_all : ∀ v, v < 64 → sumR v (bitsR v).length = v := by decide +kernel
set_option maxRecDepth 100000 in
theorem sum_div : ∀ r, r < 256 → ∀ k, k < (bitsR (r % 64)).length → r / 2 ^ bR (r % 64) k % 2 = 1 := by decide +kernel
theorem onesR_len (v : Nat) : (onesR v).length = (bitsR v).length := by simp [onesR]
theorem onesR_get {v k : Nat} (h : k < (bitsR v).length) : (onesR v)[k]? = some (.int .u8 (2 ^ bR v k : Nat)) := by
  unfold onesR bR
  rw [List.getElem?_map, List.getD_eq_getElem?_getD, List.getElem?_eq_getElem h]; rfl

def st3 (r al : Nat) (a : List UInt8) (e : Nat) (E : D) (c g : Nat) (G : D) (v : Nat) (k : Nat) : St := ⟨[(0, .int .u8 (r : Nat)), (1, .int .u8 (al : Nat)), (7, .str a), (8, E), (9, .str a), (10, .int .i64 (e : Nat)), (11, .int .u8 (c : Nat)), (12, G), (13, .int .u8 (c : Nat)), (14, .int .i64 (g : Nat)), (15, .vec 1 (onesR v) (.own 0)), (16, .int .i64 (k : Nat)), (17, .int .u8 (sumR v k : Nat)), (18, .int .i64 (k : Nat))], [], [true], []⟩
set_option maxRecDepth 20000 in
set_option maxHeartbeats 2000000 in
theorem loop3 (C : Callees) (r al : Nat) (hr : r < 256) (a : List UInt8) (e : Nat) (E : D) (c g : Nat) (G : D) (v : Nat) (hE : E = .nili ∨ ∃ m, E = .iface 102 (.int .i64 m)) (hG : G = .nili ∨ ∃ m, G = .iface 102 (.int .i64 m)) (hv : v = r % 64) (st : St) (hst : an3.at_ (some 10) st = st3 r al a e E c g G v 0) :
    ∃ x st', loopC T an3 C lp3_0 st = some (x, st') ∧ x = .exit 0 ∧ ∃ ρ, st' = ⟨ρ, [], [true], []⟩ ∧ get ρ 0 = .int .u8 (r : Nat) ∧ get ρ 1 = .int .u8 (al : Nat) ∧ get ρ 7 = .str a ∧ get ρ 8 = E ∧ get ρ 9 = .str a ∧ get ρ 10 = .int .i64 (e : Nat) ∧ get ρ 11 = .int .u8 (c : Nat) ∧ get ρ 12 = G ∧ get ρ 13 = .int .u8 (c : Nat) ∧ get ρ 14 = .int .i64 (g : Nat) ∧ get ρ 17 = .int .u8 (v : Nat) := by
  have hv64 : v < 64 := by omega
  rcases hE with rfl | ⟨m1, rfl⟩ <;> rcases hG with rfl | ⟨m2, rfl⟩
  all_goals
    refine loop_rule (st3 r al a e _ c g _ v) (fun k => k ≤ (bitsR v).length) (fun k => (bitsR v).length - k) _ ?_ 0 st hst (Nat.zero_le _)
    intro k hk
    have h6 := bits_len v
    have hlen := onesR_len v
    simp only [st3]
    rcases Nat.lt_or_ge k (bitsR v).length with h | h
    · left
      have g0 : (k : Int) < (bitsR v).length := by omega
      have g1 := pnat k
      have w1 : IntKind.i64.wrap ((k : Int) + 1) = ((k + 1 : Nat) : Int) := by rw [wrapI (by omega) (by omega)]; rfl
      have e1 := onesR_get h
      obtain ⟨s1, s2, s3, s4⟩ := sum_step v hv64 k h
      have hd : r / 2 ^ bR v k % 2 = 1 := by
        subst hv; exact sum_div r hr k h
      generalize 2 ^ bR v k = p at e1 s1 s2 s3 s4 hd
      generalize sumR v k = u at s1 s2
      have t0 := tdiv_nat r p
      have t1 : ((r / p : Nat) : Int).tmod 2 = 1 := by rw [show (2 : Int) = ((2 : Nat) : Int) from rfl, tmod_nat, hd]; rfl
      have x1 : ¬ (p : Int) = 0 := by omega
      have x2 : ¬ (p : Int) ≤ u := by omega
      have q1 : r / p ≤ r := Nat.div_le_self ..
      have w2 : IntKind.u8.wrap ((r / p : Nat) : Int) = (r / p : Nat) := wrap_u8 (pnat _) (Int.ofNat_lt.2 (Nat.lt_of_le_of_lt q1 hr))
      have w3 : IntKind.u8.wrap ((u : Int) + p) = ((u + p : Nat) : Int) := by rw [wrap_u8 (by omega) (by omega)]; rfl
      refine ⟨k + 1, ?_, by omega, by omega⟩
      rw [s2]
      simp only [st3, lp3_0, subC, atC, Tryd.f3, an3, g0, g1, w1, w2, w3, e1, t0, t1, x1, x2, hlen, Int.toNat_natCast, AL, T3, T4, T5, T9, T24, T33, EL, e_finWf, e_finWt, e_finMN, e_finMX, retM, meltV, tupV, D.asBox, D.row1, D.freeR, D.freeO, List.replicate_succ, stepD, accs, accP, accW, simpleOp, isAl, isExt, flipD, D.fresh1, D.row, D.plain, D.plain.plainL, St.close, St.close1, St.borrow, retV, resV, resL, outCL, outC, outL, outD, wantedV, opV, An.mid, thawV, St.settle, D.plainU, prune, envOf, get, put, eval, evalT, nz, argsV, capsV, ofV, binV, binV.aggV, unV, intV, eqOp, isConst, natV, optV, loadV, loadC, storeV, setC, St.at_, partV, partTy, indexAddrV, fieldAddrV, sliceV, sliceV.rowSl, sliceV.strSl, bounds, cutP, builtinV, lenV, maxL, maxV, appendV, St.elems, roomy, rowOf, rowS, isStr, esz, tdOf, convV, buildV, fillV, partsV, okParts, fillL, D.whole, D.demoteC, D.demote, demoteL, D.global, D.flat, D.leaf, D.cells, TI.agg, TD.rowish, callOpV, moveL, CC, keepB, St.borrowL, St.borrow, D.isLsl, adoptR, adoptC, adoptCL, adoptL, adopt, List.toArray, Array.toList, Nat.reduceEqDiff, Nat.reduceAdd, Nat.reduceSub, Nat.reduceMul, Nat.reduceLeDiff, Nat.reduceLT, reduceIte, reduceCtorEq, forall_const, imp_self, Int.reduceNeg, Int.reduceLT, Int.reduceLE, Int.reduceGT, Int.reduceGE, Int.reduceAdd, Int.reduceSub, Int.reduceMul, Int.reduceToNat, Int.reduceEq, ne_eq, eq_self]
      refine ⟨_, rfl, ?_⟩
      show an3.at_ (some 10) _ = _
      simp only [an3, ren_map, toks_map, boxes_map, AL, An.at_, tidyV, tidyW, tidyB, tidyT, sift, envBoxes, envToks, conToks, D.toks, D.tok1, toksL, D.boxes, D.box1, boxesL, memN, posN, renE, D.ren, D.ren1, renL, renB, St.content, St.boxOk, St.tokOk, trues, T3, T4, T5, T9, T24, T33, EL, e_finWf, e_finWt, e_finMN, e_finMX, retM, meltV, tupV, D.asBox, D.row1, D.freeR, D.freeO, List.replicate_succ, stepD, accs, accP, accW, simpleOp, isAl, isExt, flipD, D.fresh1, D.row, D.plain, D.plain.plainL, St.close, St.close1, St.borrow, retV, resV, resL, outCL, outC, outL, outD, wantedV, opV, An.mid, thawV, St.settle, D.plainU, prune, envOf, get, put, eval, evalT, nz, argsV, capsV, ofV, binV, binV.aggV, unV, intV, eqOp, isConst, natV, optV, loadV, loadC, storeV, setC, St.at_, partV, partTy, indexAddrV, fieldAddrV, sliceV, sliceV.rowSl, sliceV.strSl, bounds, cutP, builtinV, lenV, maxL, maxV, appendV, St.elems, roomy, rowOf, rowS, isStr, esz, tdOf, convV, buildV, fillV, partsV, okParts, fillL, D.whole, D.demoteC, D.demote, demoteL, D.global, D.flat, D.leaf, D.cells, TI.agg, TD.rowish, callOpV, moveL, CC, keepB, St.borrowL, St.borrow, D.isLsl, adoptR, adoptC, adoptCL, adoptL, adopt, List.toArray, Array.toList, Nat.reduceEqDiff, Nat.reduceAdd, Nat.reduceSub, Nat.reduceMul, Nat.reduceLeDiff, Nat.reduceLT, reduceIte, reduceCtorEq, forall_const, imp_self, Int.reduceNeg, Int.reduceLT, Int.reduceLE, Int.reduceGT, Int.reduceGE, Int.reduceAdd, Int.reduceSub, Int.reduceMul, Int.reduceToNat, Int.reduceEq, ne_eq, eq_self]
    · right
      obtain rfl : k = (bitsR v).length := by omega
      have g0 : ¬ (((bitsR v).length : Nat) : Int) < (bitsR v).length := by omega
      have hs := sum_all v hv64
      simp only [st3, lp3_0, subC, atC, Tryd.f3, an3, g0, hlen, T3, T4, T5, T9, T24, T33, EL, e_finWf, e_finWt, e_finMN, e_finMX, retM, meltV, tupV, D.asBox, D.row1, D.freeR, D.freeO, List.replicate_succ, stepD, accs, accP, accW, simpleOp, isAl, isExt, flipD, D.fresh1, D.row, D.plain, D.plain.plainL, St.close, St.close1, St.borrow, retV, resV, resL, outCL, outC, outL, outD, wantedV, opV, An.mid, thawV, St.settle, D.plainU, prune, envOf, get, put, eval, evalT, nz, argsV, capsV, ofV, binV, binV.aggV, unV, intV, eqOp, isConst, natV, optV, loadV, loadC, storeV, setC, St.at_, partV, partTy, indexAddrV, fieldAddrV, sliceV, sliceV.rowSl, sliceV.strSl, bounds, cutP, builtinV, lenV, maxL, maxV, appendV, St.elems, roomy, rowOf, rowS, isStr, esz, tdOf, convV, buildV, fillV, partsV, okParts, fillL, D.whole, D.demoteC, D.demote, demoteL, D.global, D.flat, D.leaf, D.cells, TI.agg, TD.rowish, callOpV, moveL, CC, keepB, St.borrowL, St.borrow, D.isLsl, adoptR, adoptC, adoptCL, adoptL, adopt, List.toArray, Array.toList, Nat.reduceEqDiff, Nat.reduceAdd, Nat.reduceSub, Nat.reduceMul, Nat.reduceLeDiff, Nat.reduceLT, reduceIte, reduceCtorEq, forall_const, imp_self, Int.reduceNeg, Int.reduceLT, Int.reduceLE, Int.reduceGT, Int.reduceGE, Int.reduceAdd, Int.reduceSub, Int.reduceMul, Int.reduceToNat, Int.reduceEq, ne_eq, eq_self]
      exact ⟨_, _, rfl, by simp, rfl, _, rfl, rfl, rfl, rfl, rfl, rfl, rfl, rfl, rfl, rfl, rfl, (show _ = D.int .u8 ((sumR v (bitsR v).length : Nat) : Int) from rfl).trans (by rw [hs])⟩

set_option maxRecDepth 20000 in
set_option maxHeartbeats 4000000 in
theorem run3_all (hC : Known26 C) (r al : Nat) (hr : r < 256) (hal : al < 256) (s : List UInt8) (hs : s.length ≤ 100) (a : List UInt8) (e c g : Nat) (he : (e = 0 ∧ r < 64) ∨ (e = 1 ∧ ¬ r < 64))
    (c1 : C 15 [.int .u8 (r : Nat)] [] = some (.tuple [.str a, errD e], [])) (c2 : C 16 [.int .u8 (r : Nat)] [] = some (.tuple [.str a, .int .i64 (e : Nat)], []))
    (c3 : C 17 [.str s] [] = some (.tuple [.int .u8 (c : Nat), errD g], [])) (c4 : C 18 [.str s] [] = some (.tuple [.int .u8 (c : Nat), .int .i64 (g : Nat)], [])) :
    runV T C fi3 [.int .u8 (r : Nat), .int .u8 (al : Nat), .str s] [] = some (.bool true, []) := by
  rw [e_run _ _ _ rfl]
  have c0 := c14 hC
  have g1 : ¬ (s.length : Int) > 100 := by omega
  have c5 := c19 hC.toLib26A r hr []
  have c6 := c21 hC.toLib26A r al hr hal []
  have c7 := c22 hC.toLib26A r al hr hal []
  have n1 := hC.num e []
  have n2 := hC.num g []
  have sa : strV .eql a a = some (.bool true) := by
    show some (D.bool (a == a)) = _
    rw [beq_self_eq_true]
  have t1 : (r : Int).tmod 64 = ((r % 64 : Nat) : Int) := tmod_nat r 64
  have c8 : C 23 [.int .u8 (r : Nat)] [] = some (errD e, []) := by
    have := c23 hC.toLib26A r []
    rcases he with ⟨h1, h2⟩ | ⟨h1, h2⟩
    · rw [if_pos h2] at this; rw [h1]; exact this
    · rw [if_neg h2] at this; rw [h1]; exact this
  have lp := fun E (_ : C 15 [.int .u8 (r : Nat)] [] = some (.tuple [.str a, E], [])) hE G (_ : C 17 [.str s] [] = some (.tuple [.int .u8 (c : Nat), G], [])) hG => loop3 C r al hr a e E c g G (r % 64) hE hG rfl
  generalize decide (r &&& al = al) = hb at c6 c7
  generalize r % 64 = v at c5 t1 lp
  cases hb
  all_goals
    rcases he with ⟨rfl, h64⟩ | ⟨rfl, h64⟩
  all_goals
    first
      | (rw [errD_zero] at c1 c8 n1)
      | (rw [errD_pos (n := 1) (by decide)] at c1 c8 n1)
  all_goals
    rcases errD_cases g with ⟨rfl, E2⟩ | ⟨g0, E2⟩
  all_goals
    rw [E2] at c3 n2
    clear E2
  all_goals
    first
      | (have x1 : (r : Int) < 64 := by omega)
      | (have x1 : ¬ (r : Int) < 64 := by omega)
    simp only [fi3, Tryd.f3, an3, c1, c2, c3, c4, c5, c0, g1, AL, T3, T4, T5, T9, T24, T33, EL, e_finWf, e_finWt, e_finMN, e_finMX, retM, meltV, tupV, D.asBox, D.row1, D.freeR, D.freeO, List.replicate_succ, stepD, accs, accP, accW, simpleOp, isAl, isExt, flipD, D.fresh1, D.row, D.plain, D.plain.plainL, St.close, St.close1, St.borrow, retV, resV, resL, outCL, outC, outL, outD, wantedV, opV, An.mid, thawV, St.settle, D.plainU, prune, envOf, get, put, eval, evalT, nz, argsV, capsV, ofV, binV, binV.aggV, unV, intV, eqOp, isConst, natV, optV, loadV, loadC, storeV, setC, St.at_, partV, partTy, indexAddrV, fieldAddrV, sliceV, sliceV.rowSl, sliceV.strSl, bounds, cutP, builtinV, lenV, maxL, maxV, appendV, St.elems, roomy, rowOf, rowS, isStr, esz, tdOf, convV, buildV, fillV, partsV, okParts, fillL, D.whole, D.demoteC, D.demote, demoteL, D.global, D.flat, D.leaf, D.cells, TI.agg, TD.rowish, callOpV, moveL, CC, keepB, St.borrowL, St.borrow, D.isLsl, adoptR, adoptC, adoptCL, adoptL, adopt, List.toArray, Array.toList, Nat.reduceEqDiff, Nat.reduceAdd, Nat.reduceSub, Nat.reduceMul, Nat.reduceLeDiff, Nat.reduceLT, reduceIte, reduceCtorEq, forall_const, imp_self, Int.reduceNeg, Int.reduceLT, Int.reduceLE, Int.reduceGT, Int.reduceGE, Int.reduceAdd, Int.reduceSub, Int.reduceMul, Int.reduceToNat, Int.reduceEq, ne_eq, eq_self]
    have lp2 := lp _ c1 (by first | exact .inl rfl | exact .inr ⟨_, rfl⟩) _ c3 (by first | exact .inl rfl | exact .inr ⟨_, rfl⟩)
    refine' in_loop (c' := lp3_0) (fin T _ _ _) (lp2 _ ?_) rfl ?_
    · simp only [an3, ren_map, toks_map, boxes_map, st3, sumR, List.take_zero, List.map_nil, List.sum_nil, pz0, AL, An.at_, tidyV, tidyW, tidyB, tidyT, sift, envBoxes, envToks, conToks, D.toks, D.tok1, toksL, D.boxes, D.box1, boxesL, memN, posN, renE, D.ren, D.ren1, renL, renB, St.content, St.boxOk, St.tokOk, trues, T3, T4, T5, T9, T24, T33, EL, e_finWf, e_finWt, e_finMN, e_finMX, retM, meltV, tupV, D.asBox, D.row1, D.freeR, D.freeO, List.replicate_succ, stepD, accs, accP, accW, simpleOp, isAl, isExt, flipD, D.fresh1, D.row, D.plain, D.plain.plainL, St.close, St.close1, St.borrow, retV, resV, resL, outCL, outC, outL, outD, wantedV, opV, An.mid, thawV, St.settle, D.plainU, prune, envOf, get, put, eval, evalT, nz, argsV, capsV, ofV, binV, binV.aggV, unV, intV, eqOp, isConst, natV, optV, loadV, loadC, storeV, setC, St.at_, partV, partTy, indexAddrV, fieldAddrV, sliceV, sliceV.rowSl, sliceV.strSl, bounds, cutP, builtinV, lenV, maxL, maxV, appendV, St.elems, roomy, rowOf, rowS, isStr, esz, tdOf, convV, buildV, fillV, partsV, okParts, fillL, D.whole, D.demoteC, D.demote, demoteL, D.global, D.flat, D.leaf, D.cells, TI.agg, TD.rowish, callOpV, moveL, CC, keepB, St.borrowL, St.borrow, D.isLsl, adoptR, adoptC, adoptCL, adoptL, adopt, List.toArray, Array.toList, Nat.reduceEqDiff, Nat.reduceAdd, Nat.reduceSub, Nat.reduceMul, Nat.reduceLeDiff, Nat.reduceLT, reduceIte, reduceCtorEq, forall_const, imp_self, Int.reduceNeg, Int.reduceLT, Int.reduceLE, Int.reduceGT, Int.reduceGE, Int.reduceAdd, Int.reduceSub, Int.reduceMul, Int.reduceToNat, Int.reduceEq, ne_eq, eq_self]
      all_goals rfl
    · rintro x st' ⟨rfl, ρ, rfl, r0, r1, r7, r8, r9, r10, r11, r12, r13, r14, r17⟩
      simp only [r0, r1, r7, r8, r9, r10, r11, r12, r13, r14, r17, n1, n2, sa, c0, c6, c7, c8, t1, x1, AL, T3, T4, T5, T9, T24, T33, EL, e_finWf, e_finWt, e_finMN, e_finMX, retM, meltV, tupV, D.asBox, D.row1, D.freeR, D.freeO, List.replicate_succ, stepD, accs, accP, accW, simpleOp, isAl, isExt, flipD, D.fresh1, D.row, D.plain, D.plain.plainL, St.close, St.close1, St.borrow, retV, resV, resL, outCL, outC, outL, outD, wantedV, opV, An.mid, thawV, St.settle, D.plainU, prune, envOf, get, put, eval, evalT, nz, argsV, capsV, ofV, binV, binV.aggV, unV, intV, eqOp, isConst, natV, optV, loadV, loadC, storeV, setC, St.at_, partV, partTy, indexAddrV, fieldAddrV, sliceV, sliceV.rowSl, sliceV.strSl, bounds, cutP, builtinV, lenV, maxL, maxV, appendV, St.elems, roomy, rowOf, rowS, isStr, esz, tdOf, convV, buildV, fillV, partsV, okParts, fillL, D.whole, D.demoteC, D.demote, demoteL, D.global, D.flat, D.leaf, D.cells, TI.agg, TD.rowish, callOpV, moveL, CC, keepB, St.borrowL, St.borrow, D.isLsl, adoptR, adoptC, adoptCL, adoptL, adopt, List.toArray, Array.toList, Nat.reduceEqDiff, Nat.reduceAdd, Nat.reduceSub, Nat.reduceMul, Nat.reduceLeDiff, Nat.reduceLT, reduceIte, reduceCtorEq, forall_const, imp_self, Int.reduceNeg, Int.reduceLT, Int.reduceLE, Int.reduceGT, Int.reduceGE, Int.reduceAdd, Int.reduceSub, Int.reduceMul, Int.reduceToNat, Int.reduceEq, ne_eq, eq_self]
      done
theorem run3 (hC : Known26 C) (r al : Nat) (hr : r < 256) (hal : al < 256) (s : List UInt8) : runV T C fi3 [.int .u8 (r : Nat), .int .u8 (al : Nat), .str s] [] = some (.bool true, []) := by
  by_cases hs : s.length ≤ 100
  · have c1 := c15 hC.toLib26B r hr
    have c2 := c16 hC.toLib26A r hr []
    have c3 := c17 hC.toLib26B s (by omega)
    have c4 := c18 hC.toLib26A s []
    by_cases h : r < 64
    · rw [if_pos h, if_pos h] at c1
      rw [if_pos h] at c2
      exact run3_all hC r al hr hal s hs (textS r) 0 _ _ (.inl ⟨rfl, h⟩) c1 c2 c3 c4
    · rw [if_neg h, if_neg h] at c1
      rw [if_neg h] at c2
      exact run3_all hC r al hr hal s hs [] 1 _ _ (.inr ⟨rfl, h⟩) c1 c2 c3 c4
  · rw [e_run _ _ _ rfl]
    have c0 := c14 hC
    have g1 : (s.length : Int) > 100 := by omega
    simp only [fi3, Tryd.f3, an3, c0, g1, T3, T4, T5, T9, T24, T33, EL, e_finWf, e_finWt, e_finMN, e_finMX, retM, meltV, tupV, D.asBox, D.row1, D.freeR, D.freeO, List.replicate_succ, stepD, accs, accP, accW, simpleOp, isAl, isExt, flipD, D.fresh1, D.row, D.plain, D.plain.plainL, St.close, St.close1, St.borrow, retV, resV, resL, outCL, outC, outL, outD, wantedV, opV, An.mid, thawV, St.settle, D.plainU, prune, envOf, get, put, eval, evalT, nz, argsV, capsV, ofV, binV, binV.aggV, unV, intV, eqOp, isConst, natV, optV, loadV, loadC, storeV, setC, St.at_, partV, partTy, indexAddrV, fieldAddrV, sliceV, sliceV.rowSl, sliceV.strSl, bounds, cutP, builtinV, lenV, maxL, maxV, appendV, St.elems, roomy, rowOf, rowS, isStr, esz, tdOf, convV, buildV, fillV, partsV, okParts, fillL, D.whole, D.demoteC, D.demote, demoteL, D.global, D.flat, D.leaf, D.cells, TI.agg, TD.rowish, callOpV, moveL, CC, keepB, St.borrowL, St.borrow, D.isLsl, adoptR, adoptC, adoptCL, adoptL, adopt, List.toArray, Array.toList, Nat.reduceEqDiff, Nat.reduceAdd, Nat.reduceSub, Nat.reduceMul, Nat.reduceLeDiff, Nat.reduceLT, reduceIte, reduceCtorEq, forall_const, imp_self, Int.reduceNeg, Int.reduceLT, Int.reduceLE, Int.reduceGT, Int.reduceGE, Int.reduceAdd, Int.reduceSub, Int.reduceMul, Int.reduceToNat, Int.reduceEq, ne_eq, eq_self]

end Go.Proofs.YtbbbhalmlboapaaDoor.V
