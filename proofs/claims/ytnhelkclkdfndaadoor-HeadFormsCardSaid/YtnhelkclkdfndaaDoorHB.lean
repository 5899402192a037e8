/-
Layer 19: heads out of pages.
-/
import Derived.Test.YtnhelkclkdfndaaDoorHA
namespace Go.Proofs.YtnhelkclkdfndaaDoor.V
open Go Go.RowKit
set_option linter.unusedSimpArgs false
set_option linter.unusedVariables false

variable {C : Callees}

theorem en_bad (hC : Lib19 C) (h : Hd) (hm : h.may = false) (B : Hp) : C 32 [h.D] B = some (.tuple [.vec 1 [] .fresh, .iface 163 (.int .i64 1)], B) := hC.f32 _ _ _ (run32_bad hC h hm B)
theorem en_ok (hC : Lib19 C) (h : Hd) (hm : h.may = true) : C 32 [h.D] [] = some (.tuple [.vec 1 ((encH h).map byteD) .box, .nili], []) := hC.f32 _ _ _ (run32_ok hC h hm)

theorem end_t0 {r : D} {B' : Hp} (h : r.under 0 = true) : endV true [] r B' = some (r, []) := by
  unfold endV
  rw [cond_true, if_pos ⟨h, .inl rfl⟩]; rfl

def Bd (s : RS) : Prop := ∀ l, s = some l → l.length ≤ 1000000
theorem Bd.num {s : RS} (h : Bd s) (m : Nat) : Bd (numP s m).1 := fun l hl => by
  cases s with
  | none => cases hl
  | some q =>
    have := numS_len (l := q) (r := l) (m := m) (n := (numS q m).2) (by rw [← hl]; rfl)
    have := h q rfl
    omega

theorem ldO_len (l : List UInt8) (h : l.length = 512) : (ldO l).length ≤ 512 := by
  unfold ldO; rw [List.length_drop, List.length_take]; omega

theorem dec_of {l : List UInt8} (h1 : l.length = 512) (h2 : isL l = true) (h3 : okO l = true) :
    decE l = (if bO l 0 = 4 ∧ (five (ldO l) 1024 4096).1 = some [] ∧ (fiveH (five (ldO l) 1024 4096)).may = true then 0 else 3) ∧
    decH l = (if bO l 0 = 4 ∧ (five (ldO l) 1024 4096).1 = some [] ∧ (fiveH (five (ldO l) 1024 4096)).may = true then fiveH (five (ldO l) 1024 4096) else hd0) := by
  have he : decE l = (if bO l 0 = 4 ∧ (five (ldO l) 1024 4096).1 = some [] ∧ (fiveH (five (ldO l) 1024 4096)).may = true then 0 else 3) := by
    unfold decE
    rw [if_pos h1, if_pos h2, if_pos h3]
    unfold loadH
    by_cases h4 : bO l 0 = 4
    · by_cases h5 : (five (ldO l) 1024 4096).1 = some [] ∧ (fiveH (five (ldO l) 1024 4096)).may = true
      · rw [if_pos h4, if_pos h5, if_pos ⟨h4, h5⟩]
      · rw [if_pos h4, if_neg h5, if_neg (fun h => h5 h.2)]
    · rw [if_neg h4, if_neg (fun h => h4 h.1)]
  refine ⟨he, ?_⟩
  unfold decH
  rw [he]
  unfold loadH
  by_cases h4 : bO l 0 = 4 ∧ (five (ldO l) 1024 4096).1 = some [] ∧ (fiveH (five (ldO l) 1024 4096)).may = true
  · rw [if_pos h4, if_pos rfl, if_pos h4.2, if_pos h4]; rfl
  · rw [if_neg h4, if_neg (by decide), if_neg h4]

theorem hd0_D : hd0.D = .agg [.int .u64 0, .int .u64 0, .int .u64 0, .int .i64 0, .int .i64 0] := rfl

set_option maxRecDepth 10000 in
theorem run34_bad (hC : Lib19 C) (l : List UInt8) (e : Nat) (he : e ≠ 0) (hop : ∀ B, C 91 [.vec 1 (l.map byteD) .none] B = some (.tuple [.int .u8 0, .vec 1 [] .fresh, errD e], B)) :
    runV T C fi34 [byV l .none] [] = some (.tuple [hd0.D, errD e], []) := by
  rw [e_run _ _ _ rfl]
  rw [errD_pos he] at hop ⊢
  rw [hd0_D]
  simp only [fi34, Tryd.f34, an34, hop, T3, T5, T22, T33, T71, T163, EL, e_finWf, e_finWt, e_finMN, e_finMX, retM, meltV, tupV, D.asBox, D.row1, D.freeR, D.freeO, List.replicate_succ, stepD, accs, accP, accW, simpleOp, isAl, isExt, flipD, D.fresh1, D.row, D.plain, D.plain.plainL, St.close, St.close1, St.borrow, retV, resV, resL, outCL, outC, outL, outD, wantedV, opV, An.mid, thawV, St.settle, D.plainU, prune, envOf, get, put, eval, evalT, nz, argsV, capsV, ofV, binV, binV.aggV, unV, intV, eqOp, isConst, natV, optV, loadV, loadC, storeV, setC, St.at_, partV, partTy, indexAddrV, fieldAddrV, sliceV, sliceV.rowSl, sliceV.strSl, bounds, cutP, builtinV, lenV, maxL, maxV, appendV, St.elems, roomy, rowOf, rowS, isStr, esz, tdOf, convV, buildV, fillV, partsV, okParts, fillL, D.whole, D.demoteC, D.demote, demoteL, D.global, D.flat, D.leaf, D.cells, TI.agg, TD.rowish, callOpV, moveL, CC, keepB, St.borrowL, St.borrow, D.isLsl, adoptR, adoptC, adoptCL, adoptL, adopt, List.toArray, Array.toList, Nat.reduceEqDiff, Nat.reduceAdd, Nat.reduceSub, Nat.reduceMul, Nat.reduceLeDiff, Nat.reduceLT, reduceIte, reduceCtorEq, forall_const, imp_self, Int.reduceNeg, Int.reduceLT, Int.reduceLE, Int.reduceGT, Int.reduceGE, Int.reduceAdd, Int.reduceSub, Int.reduceMul, Int.reduceToNat, Int.reduceEq, ne_eq, eq_self]
  exact end_t0 rfl

theorem u8_four {c : UInt8} : (c = 4) = (((c.toNat : Nat) : Int) = 4) := by
  apply propext
  constructor
  · rintro rfl; rfl
  · intro h; exact UInt8.toNat_inj.1 (by show c.toNat = 4; omega)

set_option maxRecDepth 10000 in
set_option maxHeartbeats 2000000 in
theorem run34_ok (hC : Lib19 C) (l : List UInt8) (h1 : l.length = 512) (h2 : isL l = true) (h3 : okO l = true) :
    runV T C fi34 [byV l .none] [] = some (.tuple [(decH l).D, errD (decE l)], []) := by
  rw [e_run _ _ _ rfl]
  obtain ⟨ee, eh⟩ := dec_of h1 h2 h3
  have hlen := ldO_len l h1
  have c1 := opL_ok hC.toLib05 l h1 h2 h3
  have c2 := c92 hC.toLibPack (ldO l) (by omega)
  have b0 : Bd (some (ldO l)) := fun q hq => by injection hq with hq; subst hq; omega
  have n1 := c93 hC.toLibPack (some (ldO l)) 4611686018427387904 b0
  have b1 := b0.num 4611686018427387904
  generalize xv1 : (numP (some (ldO l)) 4611686018427387904).2 = v1 at n1
  generalize xs1 : (numP (some (ldO l)) 4611686018427387904).1 = s1 at n1 b1
  have n2 := c93 hC.toLibPack s1 4611686018427387904 b1
  have b2 := b1.num 4611686018427387904
  generalize xv2 : (numP s1 4611686018427387904).2 = v2 at n2
  generalize xs2 : (numP s1 4611686018427387904).1 = s2 at n2 b2
  have n3 := c93 hC.toLibPack s2 4611686018427387904 b2
  have b3 := b2.num 4611686018427387904
  generalize xv3 : (numP s2 4611686018427387904).2 = v3 at n3
  generalize xs3 : (numP s2 4611686018427387904).1 = s3 at n3 b3
  have n4 := c93 hC.toLibPack s3 1024 b3
  have b4 := b3.num 1024
  have l4 := (numP_bnd s3 1024).1
  generalize xv4 : (numP s3 1024).2 = v4 at n4 l4
  generalize xs4 : (numP s3 1024).1 = s4 at n4 b4
  have n5 := c93 hC.toLibPack s4 4096 b4
  have l5 := (numP_bnd s4 4096).1
  generalize xv5 : (numP s4 4096).2 = v5 at n5 l5
  generalize xs5 : (numP s4 4096).1 = s5 at n5
  have hf : five (ldO l) 1024 4096 = (s5, v1, v2, v3, v4, v5) := by
    unfold five big
    simp only [xv1, xs1, xv2, xs2, xv3, xs3, xv4, xs4, xv5, xs5]
  rw [hf] at ee eh
  rw [ee, eh]
  unfold fiveH
  simp only
  have w4 : IntKind.i64.wrap (v4 : Int) = v4 := wrapI (by omega) (by omega)
  have w5 : IntKind.i64.wrap (v5 : Int) = v5 := wrapI (by omega) (by omega)
  have d1 := c94 hC.toLibPack s5
  have k1 := fun B => c39 hC ⟨v1, v2, v3, (v4 : Nat), (v5 : Nat)⟩ B
  have q0 : ((4611686018427387904 : Nat) : Int) = 4611686018427387904 := rfl
  have q1 : ((1024 : Nat) : Int) = 1024 := rfl
  have q2 : ((4096 : Nat) : Int) = 4096 := rfl
  rw [q0] at n1 n2 n3
  rw [q1] at n4
  rw [q2] at n5
  by_cases g0 : bO l 0 = 4 <;> have g1 := g0 <;> rw [u8_four] at g1
  · by_cases g2 : s5 = some []
    · subst g2
      have d2 : doneE (some []) = 0 := rfl
      rw [d2, errD_zero] at d1
      unfold mayE Hd.D at k1
      cases hm : (Hd.mk v1 v2 v3 (v4 : Nat) (v5 : Nat)).may with
      | true =>
        simp only [hm, if_true, errD_zero] at k1
        rw [if_pos ⟨g0, rfl, rfl⟩, if_pos ⟨g0, rfl, rfl⟩]
        unfold Hd.D
        simp only [fi34, Tryd.f34, an34, c1, c2, n1, n2, n3, n4, n5, w4, w5, d1, k1, g1, T3, T5, T22, T33, T71, T163, EL, e_finWf, e_finWt, e_finMN, e_finMX, retM, meltV, tupV, D.asBox, D.row1, D.freeR, D.freeO, List.replicate_succ, stepD, accs, accP, accW, simpleOp, isAl, isExt, flipD, D.fresh1, D.row, D.plain, D.plain.plainL, St.close, St.close1, St.borrow, retV, resV, resL, outCL, outC, outL, outD, wantedV, opV, An.mid, thawV, St.settle, D.plainU, prune, envOf, get, put, eval, evalT, nz, argsV, capsV, ofV, binV, binV.aggV, unV, intV, eqOp, isConst, natV, optV, loadV, loadC, storeV, setC, St.at_, partV, partTy, indexAddrV, fieldAddrV, sliceV, sliceV.rowSl, sliceV.strSl, bounds, cutP, builtinV, lenV, maxL, maxV, appendV, St.elems, roomy, rowOf, rowS, isStr, esz, tdOf, convV, buildV, fillV, partsV, okParts, fillL, D.whole, D.demoteC, D.demote, demoteL, D.global, D.flat, D.leaf, D.cells, TI.agg, TD.rowish, callOpV, moveL, CC, keepB, St.borrowL, St.borrow, D.isLsl, adoptR, adoptC, adoptCL, adoptL, adopt, List.toArray, Array.toList, Nat.reduceEqDiff, Nat.reduceAdd, Nat.reduceSub, Nat.reduceMul, Nat.reduceLeDiff, Nat.reduceLT, reduceIte, reduceCtorEq, forall_const, imp_self, Int.reduceNeg, Int.reduceLT, Int.reduceLE, Int.reduceGT, Int.reduceGE, Int.reduceAdd, Int.reduceSub, Int.reduceMul, Int.reduceToNat, Int.reduceEq, ne_eq, eq_self]
        exact end_t0 rfl
      | false =>
        simp only [hm, Bool.false_eq_true, if_false, errD_pos (by decide : (1 : Nat) ≠ 0)] at k1
        rw [if_neg (fun h => by cases h.2.2), if_neg (fun h => by cases h.2.2)]
        rw [hd0_D]
        simp only [fi34, Tryd.f34, an34, c1, c2, n1, n2, n3, n4, n5, w4, w5, d1, k1, g1, T3, T5, T22, T33, T71, T163, EL, e_finWf, e_finWt, e_finMN, e_finMX, retM, meltV, tupV, D.asBox, D.row1, D.freeR, D.freeO, List.replicate_succ, stepD, accs, accP, accW, simpleOp, isAl, isExt, flipD, D.fresh1, D.row, D.plain, D.plain.plainL, St.close, St.close1, St.borrow, retV, resV, resL, outCL, outC, outL, outD, wantedV, opV, An.mid, thawV, St.settle, D.plainU, prune, envOf, get, put, eval, evalT, nz, argsV, capsV, ofV, binV, binV.aggV, unV, intV, eqOp, isConst, natV, optV, loadV, loadC, storeV, setC, St.at_, partV, partTy, indexAddrV, fieldAddrV, sliceV, sliceV.rowSl, sliceV.strSl, bounds, cutP, builtinV, lenV, maxL, maxV, appendV, St.elems, roomy, rowOf, rowS, isStr, esz, tdOf, convV, buildV, fillV, partsV, okParts, fillL, D.whole, D.demoteC, D.demote, demoteL, D.global, D.flat, D.leaf, D.cells, TI.agg, TD.rowish, callOpV, moveL, CC, keepB, St.borrowL, St.borrow, D.isLsl, adoptR, adoptC, adoptCL, adoptL, adopt, List.toArray, Array.toList, Nat.reduceEqDiff, Nat.reduceAdd, Nat.reduceSub, Nat.reduceMul, Nat.reduceLeDiff, Nat.reduceLT, reduceIte, reduceCtorEq, forall_const, imp_self, Int.reduceNeg, Int.reduceLT, Int.reduceLE, Int.reduceGT, Int.reduceGE, Int.reduceAdd, Int.reduceSub, Int.reduceMul, Int.reduceToNat, Int.reduceEq, ne_eq, eq_self]
        exact end_t0 rfl
    · have d2 : doneE s5 = 3 := by
        rcases s5 with _ | _ | ⟨c, q⟩
        · rfl
        · exact absurd rfl g2
        · rfl
      rw [d2, errD_pos (by decide)] at d1
      rw [if_neg (fun h => g2 h.2.1), if_neg (fun h => g2 h.2.1)]
      rw [hd0_D]
      simp only [fi34, Tryd.f34, an34, c1, c2, n1, n2, n3, n4, n5, w4, w5, d1, g1, T3, T5, T22, T33, T71, T163, EL, e_finWf, e_finWt, e_finMN, e_finMX, retM, meltV, tupV, D.asBox, D.row1, D.freeR, D.freeO, List.replicate_succ, stepD, accs, accP, accW, simpleOp, isAl, isExt, flipD, D.fresh1, D.row, D.plain, D.plain.plainL, St.close, St.close1, St.borrow, retV, resV, resL, outCL, outC, outL, outD, wantedV, opV, An.mid, thawV, St.settle, D.plainU, prune, envOf, get, put, eval, evalT, nz, argsV, capsV, ofV, binV, binV.aggV, unV, intV, eqOp, isConst, natV, optV, loadV, loadC, storeV, setC, St.at_, partV, partTy, indexAddrV, fieldAddrV, sliceV, sliceV.rowSl, sliceV.strSl, bounds, cutP, builtinV, lenV, maxL, maxV, appendV, St.elems, roomy, rowOf, rowS, isStr, esz, tdOf, convV, buildV, fillV, partsV, okParts, fillL, D.whole, D.demoteC, D.demote, demoteL, D.global, D.flat, D.leaf, D.cells, TI.agg, TD.rowish, callOpV, moveL, CC, keepB, St.borrowL, St.borrow, D.isLsl, adoptR, adoptC, adoptCL, adoptL, adopt, List.toArray, Array.toList, Nat.reduceEqDiff, Nat.reduceAdd, Nat.reduceSub, Nat.reduceMul, Nat.reduceLeDiff, Nat.reduceLT, reduceIte, reduceCtorEq, forall_const, imp_self, Int.reduceNeg, Int.reduceLT, Int.reduceLE, Int.reduceGT, Int.reduceGE, Int.reduceAdd, Int.reduceSub, Int.reduceMul, Int.reduceToNat, Int.reduceEq, ne_eq, eq_self]
      exact end_t0 rfl
  · rw [if_neg (fun h => g0 h.1), if_neg (fun h => g0 h.1)]
    rw [hd0_D]
    simp only [fi34, Tryd.f34, an34, c1, c2, n1, n2, n3, n4, n5, w4, w5, g1, T3, T5, T22, T33, T71, T163, EL, e_finWf, e_finWt, e_finMN, e_finMX, retM, meltV, tupV, D.asBox, D.row1, D.freeR, D.freeO, List.replicate_succ, stepD, accs, accP, accW, simpleOp, isAl, isExt, flipD, D.fresh1, D.row, D.plain, D.plain.plainL, St.close, St.close1, St.borrow, retV, resV, resL, outCL, outC, outL, outD, wantedV, opV, An.mid, thawV, St.settle, D.plainU, prune, envOf, get, put, eval, evalT, nz, argsV, capsV, ofV, binV, binV.aggV, unV, intV, eqOp, isConst, natV, optV, loadV, loadC, storeV, setC, St.at_, partV, partTy, indexAddrV, fieldAddrV, sliceV, sliceV.rowSl, sliceV.strSl, bounds, cutP, builtinV, lenV, maxL, maxV, appendV, St.elems, roomy, rowOf, rowS, isStr, esz, tdOf, convV, buildV, fillV, partsV, okParts, fillL, D.whole, D.demoteC, D.demote, demoteL, D.global, D.flat, D.leaf, D.cells, TI.agg, TD.rowish, callOpV, moveL, CC, keepB, St.borrowL, St.borrow, D.isLsl, adoptR, adoptC, adoptCL, adoptL, adopt, List.toArray, Array.toList, Nat.reduceEqDiff, Nat.reduceAdd, Nat.reduceSub, Nat.reduceMul, Nat.reduceLeDiff, Nat.reduceLT, reduceIte, reduceCtorEq, forall_const, imp_self, Int.reduceNeg, Int.reduceLT, Int.reduceLE, Int.reduceGT, Int.reduceGE, Int.reduceAdd, Int.reduceSub, Int.reduceMul, Int.reduceToNat, Int.reduceEq, ne_eq, eq_self]
    exact end_t0 rfl

theorem run34 (hC : Lib19 C) (l : List UInt8) : runV T C fi34 [byV l .none] [] = some (.tuple [(decH l).D, errD (decE l)], []) := by
  have hL := hC.toLib05
  by_cases h1 : l.length = 512
  · cases h2 : isL l with
    | false =>
      have e : decE l = 4 := by unfold decE; rw [if_pos h1, h2]; rfl
      rw [dec_bad (by rw [e]; decide), e]
      exact run34_bad hC l 4 (by decide) (opL_sum hL l h1 h2)
    | true =>
      cases h3 : okO l with
      | false =>
        have e : decE l = 3 := by unfold decE; rw [if_pos h1, if_pos h2, h3]; rfl
        rw [dec_bad (by rw [e]; decide), e]
        exact run34_bad hC l 3 (by decide) (opL_bad hL l h1 h2 h3)
      | true => exact run34_ok hC l h1 h2 h3
  · have e : decE l = 3 := by unfold decE; rw [if_neg h1]
    rw [dec_bad (by rw [e]; decide), e]
    exact run34_bad hC l 3 (by decide) (opL_len hL l h1)
theorem c34 (hC : Lib19 C) (l : List UInt8) : C 34 [.vec 1 (l.map byteD) .none] [] = some (.tuple [(decH l).D, errD (decE l)], []) := hC.f34 _ _ _ (run34 hC l)

/-! ### The document's Encode -/
set_option maxRecDepth 10000 in
theorem run33_bad (hC : Lib19 C) (h : Hd) (hm : h.may = false) (B : Hp) : runV T C fi33 [h.D] B = some (.tuple [.vec 1 [] .fresh, .int .i64 1], B) := by
  rw [e_run _ _ _ rfl]
  have c1 := c40 hC h
  rw [hm] at c1
  unfold Hd.D at c1 ⊢
  simp only [fi33, Tryd.f33, an33, c1, T3, T4, T5, T22, T67, T68, EL, e_finWf, e_finWt, e_finMN, e_finMX, retM, meltV, tupV, D.asBox, D.row1, D.freeR, D.freeO, List.replicate_succ, stepD, accs, accP, accW, simpleOp, isAl, isExt, flipD, D.fresh1, D.row, D.plain, D.plain.plainL, St.close, St.close1, St.borrow, retV, resV, resL, outCL, outC, outL, outD, wantedV, opV, An.mid, thawV, St.settle, D.plainU, prune, envOf, get, put, eval, evalT, nz, argsV, capsV, ofV, binV, binV.aggV, unV, intV, eqOp, isConst, natV, optV, loadV, loadC, storeV, setC, St.at_, partV, partTy, indexAddrV, fieldAddrV, sliceV, sliceV.rowSl, sliceV.strSl, bounds, cutP, builtinV, lenV, maxL, maxV, appendV, St.elems, roomy, rowOf, rowS, isStr, esz, tdOf, convV, buildV, fillV, partsV, okParts, fillL, D.whole, D.demoteC, D.demote, demoteL, D.global, D.flat, D.leaf, D.cells, TI.agg, TD.rowish, callOpV, moveL, CC, keepB, St.borrowL, St.borrow, D.isLsl, adoptR, adoptC, adoptCL, adoptL, adopt, List.toArray, Array.toList, Nat.reduceEqDiff, Nat.reduceAdd, Nat.reduceSub, Nat.reduceMul, Nat.reduceLeDiff, Nat.reduceLT, reduceIte, reduceCtorEq, forall_const, imp_self, Int.reduceNeg, Int.reduceLT, Int.reduceLE, Int.reduceGT, Int.reduceGE, Int.reduceAdd, Int.reduceSub, Int.reduceMul, Int.reduceToNat, Int.reduceEq, ne_eq, eq_self]
set_option maxRecDepth 20000 in
set_option maxHeartbeats 2000000 in
theorem run33_ok (hC : Lib19 C) (h : Hd) (hm : h.may = true) (B : Hp) : runV T C fi33 [h.D] B = some (.tuple [.vec 1 ((encH h).map byteD) .fresh, .int .i64 0], B) := by
  rw [e_run _ _ _ rfl]
  have c1 := c40 hC h
  rw [hm] at c1
  obtain ⟨h1, h2, h3, h4, h5, h6, h7⟩ := may_parts hm
  unfold big at h1 h2 h3
  have hl := headL_len hm
  unfold headL at hl
  simp only [List.length_append] at hl
  have w1 : IntKind.u64.wrap h.r = (h.r.toNat : Nat) := by rw [wrap_u64 (by omega) (by omega)]; omega
  have w2 : IntKind.u64.wrap h.e = (h.e.toNat : Nat) := by rw [wrap_u64 (by omega) (by omega)]; omega
  have p1 : ∀ B, C 89 [.vec 1 [] .none, .int .u64 h.a] B = some (.vec 1 ((vputS h.a).map byteD) .fresh, B) := c89 hC.toLibVar [] h.a (by omega) (by decide)
  have p2 := c89 hC.toLibVar (vputS h.a) h.b (by omega) (by omega)
  have p3 := c89 hC.toLibVar (vputS h.a ++ vputS h.b) h.c (by omega) (by rw [List.length_append]; omega)
  have p4 := c89 hC.toLibVar (vputS h.a ++ vputS h.b ++ vputS h.c) h.r.toNat (by omega) (by simp only [List.length_append]; omega)
  have p5 := c89 hC.toLibVar (vputS h.a ++ vputS h.b ++ vputS h.c ++ vputS h.r.toNat) h.e.toNat (by omega) (by simp only [List.length_append]; omega)
  have e5 : vputS h.a ++ vputS h.b ++ vputS h.c ++ vputS h.r.toNat ++ vputS h.e.toNat = headL h := by unfold headL; simp only [List.append_assoc]
  rw [e5] at p5
  have c2 : ∀ B, C 90 [.int .u8 4, .vec 1 ((headL h).map byteD) .none] B = some (.tuple [.vec 1 ((encH h).map byteD) .fresh, .int .i64 0], B) := rs_ok hC.toLib05 4 (headL h) (by decide) (by have := headL_len hm; omega)
  unfold Hd.D at c1 ⊢
  simp only [fi33, Tryd.f33, an33, c1, w1, w2, p1, p2, p3, p4, p5, c2, T3, T4, T5, T22, T67, T68, EL, e_finWf, e_finWt, e_finMN, e_finMX, retM, meltV, tupV, D.asBox, D.row1, D.freeR, D.freeO, List.replicate_succ, stepD, accs, accP, accW, simpleOp, isAl, isExt, flipD, D.fresh1, D.row, D.plain, D.plain.plainL, St.close, St.close1, St.borrow, retV, resV, resL, outCL, outC, outL, outD, wantedV, opV, An.mid, thawV, St.settle, D.plainU, prune, envOf, get, put, eval, evalT, nz, argsV, capsV, ofV, binV, binV.aggV, unV, intV, eqOp, isConst, natV, optV, loadV, loadC, storeV, setC, St.at_, partV, partTy, indexAddrV, fieldAddrV, sliceV, sliceV.rowSl, sliceV.strSl, bounds, cutP, builtinV, lenV, maxL, maxV, appendV, St.elems, roomy, rowOf, rowS, isStr, esz, tdOf, convV, buildV, fillV, partsV, okParts, fillL, D.whole, D.demoteC, D.demote, demoteL, D.global, D.flat, D.leaf, D.cells, TI.agg, TD.rowish, callOpV, moveL, CC, keepB, St.borrowL, St.borrow, D.isLsl, adoptR, adoptC, adoptCL, adoptL, adopt, List.toArray, Array.toList, Nat.reduceEqDiff, Nat.reduceAdd, Nat.reduceSub, Nat.reduceMul, Nat.reduceLeDiff, Nat.reduceLT, reduceIte, reduceCtorEq, forall_const, imp_self, Int.reduceNeg, Int.reduceLT, Int.reduceLE, Int.reduceGT, Int.reduceGE, Int.reduceAdd, Int.reduceSub, Int.reduceMul, Int.reduceToNat, Int.reduceEq, ne_eq, eq_self]
  done
theorem ren_bad (hC : Lib19 C) (h : Hd) (hm : h.may = false) (B : Hp) : C 33 [h.D] B = some (.tuple [.vec 1 [] .fresh, .int .i64 1], B) := hC.f33 _ _ _ (run33_bad hC h hm B)
theorem ren_ok (hC : Lib19 C) (h : Hd) (hm : h.may = true) (B : Hp) : C 33 [h.D] B = some (.tuple [.vec 1 ((encH h).map byteD) .fresh, .int .i64 0], B) := hC.f33 _ _ _ (run33_ok hC h hm B)

end Go.Proofs.YtnhelkclkdfndaaDoor.V
