/-
Layer 19: sure, HeadForms.
-/
import Derived.Test.YtnhelkclkdfndaaDoorHD
namespace Go.Proofs.YtnhelkclkdfndaaDoor.V
open Go Go.RowKit
set_option linter.unusedSimpArgs false
set_option linter.unusedVariables false

/-! warren/warrenlaw19.sure -/
def an31 : An := ⟨fun _ => .none, fun | 22 => 1 | _ => 0, fun _ => false, fun _ => .none⟩
noncomputable def fi31 : FI := ⟨0, 66, Tryd.f31.body.getD .skip, Tryd.f31.results.toList, an31, false, false, false⟩
theorem ok31 : FnOk Tryd.prog 31 fi31 := ⟨⟨Tryd.f31, Tryd.func31, by kernel_rfl, rfl, rfl, rfl⟩, by decide, by kernel_rfl, fun h => by cases h⟩
/-! warren/warrenlaw19.HeadForms -/
def an6 : An := ⟨fun _ => .none, fun _ => 0, fun _ => false, fun _ => .none⟩
noncomputable def fi6 : FI := ⟨3, 114, Tryd.f6.body.getD .skip, Tryd.f6.results.toList, an6, false, false, false⟩
theorem ok6 : FnOk Tryd.prog 6 fi6 := ⟨⟨Tryd.f6, Tryd.func6, by kernel_rfl, rfl, rfl, rfl⟩, by decide, by kernel_rfl, fun h => by cases h⟩
structure Known19 (C : Callees) : Prop extends Lib19 C where
  f31 : Has T C 31 fi31
  num : ∀ (n : Nat) (B : Hp), C 38 [errD n] B = some (.int .i64 n, B)

variable {C : Callees}

theorem num16 (hC : Known19 C) (B : Hp) : C 38 [.iface 163 (.int .i64 16)] B = some (.int .i64 16, B) := hC.num 16 B

theorem eqT_hd (x y : Hd) : eqT T 6 71 x.l y.l = some (decide (x = y)) := by
  obtain ⟨a, b, c, r, e⟩ := x
  obtain ⟨a', b', c', r', e'⟩ := y
  simp only [eqT, eqFields, T71, T22, T3, cond_true, List.drop_zero, List.drop_succ_cons, List.take_succ_cons, List.take_zero, if_true]
  congr 1
  rw [Bool.eq_iff_iff]
  simp only [Bool.and_eq_true, beq_iff_eq, decide_eq_true_eq, Hd.mk.injEq]
  constructor
  · rintro ⟨h1, h2, h3, h4, h5, _⟩; exact ⟨by omega, by omega, by omega, h4, h5⟩
  · rintro ⟨rfl, rfl, rfl, rfl, rfl⟩; simp
theorem hd_same (h : Hd) : eqT T 6 71 [.int .u64 h.a, .int .u64 h.b, .int .u64 h.c, .int .i64 h.r, .int .i64 h.e] [.int .u64 h.a, .int .u64 h.b, .int .u64 h.c, .int .i64 h.r, .int .i64 h.e] = some true := by
  have := eqT_hd h h
  simp only [decide_true] at this
  exact this

theorem okP_enc {h : Hd} (hm : h.may = true) (i : Nat) : okP (encH h) i = decide (h.a % 2 = i) := by
  unfold okP
  rw [(dec_enc hm).1, (dec_enc hm).2]; rfl
theorem okP_len {l : List UInt8} (h : decE l ≠ 0) (i : Nat) : okP l i = false := by
  unfold okP
  rw [decide_eq_false h]; rfl

theorem str_eq (a : List UInt8) : strV .eql a a = some (.bool true) := by simp [strV]

abbrev h3 : Hd := ⟨3, 7, 0, 5, 2⟩
theorem h3_may : h3.may = true := by decide

set_option maxRecDepth 20000 in
set_option maxHeartbeats 2000000 in
theorem run31 (hC : Known19 C) : runV T C fi31 [] [] = some (.bool true, []) := by
  rw [e_run _ _ _ rfl]
  have hL := hC.toLib19
  have c1 : C 32 [.agg [.int .u64 3, .int .u64 7, .int .u64 0, .int .i64 5, .int .i64 2]] [] = some (.tuple [.vec 1 ((encH h3).map byteD) .box, .nili], []) := en_ok hL h3 h3_may
  have c2 : C 34 [.vec 1 ((encH h3).map byteD) .none] [] = some (.tuple [.agg [.int .u64 3, .int .u64 7, .int .u64 0, .int .i64 5, .int .i64 2], .nili], []) := by
    have := c34 hL (encH h3)
    rw [(dec_enc h3_may).1, (dec_enc h3_may).2, errD_zero] at this
    exact this
  have z4 : decE (zers 512) ≠ 0 := by
    unfold decE
    rw [if_pos (zers_len 512), isL_zeros]; decide
  have z0 : decE [] ≠ 0 := by decide
  have o1 : okP (encH h3) 1 = true := by rw [okP_enc h3_may]; rfl
  have o0 : okP (encH h3) 0 = false := by rw [okP_enc h3_may]; rfl
  have c3 : C 36 [.vec 1 ((zers 512).map byteD) .none, .vec 1 ((encH h3).map byteD) .none] [] = some (.tuple [.agg [.int .u64 3, .int .u64 7, .int .u64 0, .int .i64 5, .int .i64 2], .nili], []) := by
    have := c36 hL (zers 512) (encH h3)
    unfold pickH pickE at this
    rw [okP_len z4, o1, (dec_enc h3_may).2] at this
    exact this
  have c4 : C 36 [.vec 1 ((encH h3).map byteD) .none, .vec 1 [] .none] [] = some (.tuple [.agg [.int .u64 0, .int .u64 0, .int .u64 0, .int .i64 0, .int .i64 0], .iface 163 (.int .i64 16)], []) := by
    have := c36 hL (encH h3) []
    unfold pickH pickE at this
    rw [okP_len z0, o0] at this
    exact this
  have c5 : ∀ B, C 41 [.int .u64 3] B = some (.int .i64 1, B) := c41 hL 3 (by decide)
  have n16 := num16 hC
  have r0 := rep_bytes 512
  have hlen : (encH h3).length = 512 := encH_len h3_may
  have s1 := hd_same h3
  have s2 : eqT T 6 71 [.int .u64 3, .int .u64 7, .int .u64 0, .int .i64 5, .int .i64 2] [.int .u64 3, .int .u64 7, .int .u64 0, .int .i64 5, .int .i64 2] = some true := s1
  simp only [fi31, Tryd.f31, an31, h512, c1, c2, c3, c4, c5, n16, r0, hlen, s2, zers_len, glob_bytes, -List.reduceReplicate, T3, T5, T22, T33, T68, T71, EL, e_finWf, e_finWt, e_finMN, e_finMX, retM, meltV, tupV, D.asBox, D.row1, D.freeR, D.freeO, stepD, accs, accP, accW, simpleOp, isAl, isExt, flipD, D.fresh1, D.row, D.plain, D.plain.plainL, St.close, St.close1, St.borrow, retV, resV, resL, outCL, outC, outL, outD, wantedV, opV, An.mid, thawV, St.settle, D.plainU, prune, envOf, get, put, eval, evalT, nz, argsV, capsV, ofV, binV, binV.aggV, unV, intV, eqOp, isConst, natV, optV, loadV, loadC, storeV, setC, St.at_, partV, partTy, indexAddrV, fieldAddrV, sliceV, sliceV.rowSl, sliceV.strSl, bounds, cutP, builtinV, lenV, maxL, maxV, appendV, St.elems, roomy, rowOf, rowS, isStr, esz, tdOf, convV, buildV, fillV, partsV, okParts, fillL, D.whole, D.demoteC, D.demote, demoteL, D.global, D.flat, D.leaf, D.cells, TI.agg, TD.rowish, callOpV, moveL, CC, keepB, St.borrowL, St.borrow, D.isLsl, adoptR, adoptC, adoptCL, adoptL, adopt, List.toArray, Array.toList, Nat.reduceEqDiff, Nat.reduceAdd, Nat.reduceSub, Nat.reduceMul, Nat.reduceLeDiff, Nat.reduceLT, reduceIte, reduceCtorEq, forall_const, imp_self, Int.reduceNeg, Int.reduceLT, Int.reduceLE, Int.reduceGT, Int.reduceGE, Int.reduceAdd, Int.reduceSub, Int.reduceMul, Int.reduceToNat, Int.reduceEq, ne_eq, eq_self]
  done
theorem c31 (hC : Known19 C) : C 31 [] [] = some (.bool true, []) := hC.f31 _ _ _ (run31 hC)

set_option maxRecDepth 20000 in
set_option maxHeartbeats 4000000 in
theorem run6 (hC : Known19 C) (h : Hd) (hn : h.a < 18446744073709551616) (a b : List UInt8) : runV T C fi6 [h.D, byV a .none, byV b .none] [] = some (.bool true, []) := by
  rw [e_run _ _ _ rfl]
  have hL := hC.toLib19
  have c0 := c31 hC
  have eD : h.D = .agg [.int .u64 h.a, .int .u64 h.b, .int .u64 h.c, .int .i64 h.r, .int .i64 h.e] := rfl
  rw [eD]
  by_cases h1 : (a.length : Int) > 600
  · simp only [fi6, Tryd.f6, an6, h1, c0, T3, T4, T5, T9, T22, T33, T67, T68, T71, EL, e_finWf, e_finWt, e_finMN, e_finMX, retM, meltV, tupV, D.asBox, D.row1, D.freeR, D.freeO, List.replicate_succ, stepD, accs, accP, accW, simpleOp, isAl, isExt, flipD, D.fresh1, D.row, D.plain, D.plain.plainL, St.close, St.close1, St.borrow, retV, resV, resL, outCL, outC, outL, outD, wantedV, opV, An.mid, thawV, St.settle, D.plainU, prune, envOf, get, put, eval, evalT, nz, argsV, capsV, ofV, binV, binV.aggV, unV, intV, eqOp, isConst, natV, optV, loadV, loadC, storeV, setC, St.at_, partV, partTy, indexAddrV, fieldAddrV, sliceV, sliceV.rowSl, sliceV.strSl, bounds, cutP, builtinV, lenV, maxL, maxV, appendV, St.elems, roomy, rowOf, rowS, isStr, esz, tdOf, convV, buildV, fillV, partsV, okParts, fillL, D.whole, D.demoteC, D.demote, demoteL, D.global, D.flat, D.leaf, D.cells, TI.agg, TD.rowish, callOpV, moveL, CC, keepB, St.borrowL, St.borrow, D.isLsl, adoptR, adoptC, adoptCL, adoptL, adopt, List.toArray, Array.toList, Nat.reduceEqDiff, Nat.reduceAdd, Nat.reduceSub, Nat.reduceMul, Nat.reduceLeDiff, Nat.reduceLT, reduceIte, reduceCtorEq, forall_const, imp_self, Int.reduceNeg, Int.reduceLT, Int.reduceLE, Int.reduceGT, Int.reduceGE, Int.reduceAdd, Int.reduceSub, Int.reduceMul, Int.reduceToNat, Int.reduceEq, ne_eq, eq_self]
  by_cases h2 : (b.length : Int) > 600
  · simp only [fi6, Tryd.f6, an6, h1, h2, c0, T3, T4, T5, T9, T22, T33, T67, T68, T71, EL, e_finWf, e_finWt, e_finMN, e_finMX, retM, meltV, tupV, D.asBox, D.row1, D.freeR, D.freeO, List.replicate_succ, stepD, accs, accP, accW, simpleOp, isAl, isExt, flipD, D.fresh1, D.row, D.plain, D.plain.plainL, St.close, St.close1, St.borrow, retV, resV, resL, outCL, outC, outL, outD, wantedV, opV, An.mid, thawV, St.settle, D.plainU, prune, envOf, get, put, eval, evalT, nz, argsV, capsV, ofV, binV, binV.aggV, unV, intV, eqOp, isConst, natV, optV, loadV, loadC, storeV, setC, St.at_, partV, partTy, indexAddrV, fieldAddrV, sliceV, sliceV.rowSl, sliceV.strSl, bounds, cutP, builtinV, lenV, maxL, maxV, appendV, St.elems, roomy, rowOf, rowS, isStr, esz, tdOf, convV, buildV, fillV, partsV, okParts, fillL, D.whole, D.demoteC, D.demote, demoteL, D.global, D.flat, D.leaf, D.cells, TI.agg, TD.rowish, callOpV, moveL, CC, keepB, St.borrowL, St.borrow, D.isLsl, adoptR, adoptC, adoptCL, adoptL, adopt, List.toArray, Array.toList, Nat.reduceEqDiff, Nat.reduceAdd, Nat.reduceSub, Nat.reduceMul, Nat.reduceLeDiff, Nat.reduceLT, reduceIte, reduceCtorEq, forall_const, imp_self, Int.reduceNeg, Int.reduceLT, Int.reduceLE, Int.reduceGT, Int.reduceGE, Int.reduceAdd, Int.reduceSub, Int.reduceMul, Int.reduceToNat, Int.reduceEq, ne_eq, eq_self]
  obtain ⟨P, p, e, hp, hEN, hREN, hCK, hMA⟩ : ∃ (P : List UInt8) (p : Perm) (e : Nat), (p = .box ∧ e = 0 ∨ p = .fresh ∧ e ≠ 0) ∧ C 32 [h.D] [] = some (.tuple [.vec 1 (P.map byteD) p, errD e], []) ∧ C 33 [h.D] [] = some (.tuple [.vec 1 (P.map byteD) .fresh, .int .i64 e], []) ∧ C 39 [h.D] [] = some (errD e, []) ∧ C 40 [h.D] [] = some (.bool (decide (e = 0)), []) := by
    cases hm : h.may with
    | false => exact ⟨[], .fresh, 1, .inr ⟨rfl, by decide⟩, en_bad hL h hm [], ren_bad hL h hm [], by have := c39 hL h []; unfold mayE at this; rw [hm] at this; exact this, by have := c40 hL h []; rw [hm] at this; exact this⟩
    | true => exact ⟨encH h, .box, 0, .inl ⟨rfl, rfl⟩, en_ok hL h hm, ren_ok hL h hm [], by have := c39 hL h []; unfold mayE at this; rw [hm] at this; exact this, by have := c40 hL h []; rw [hm] at this; exact this⟩
  have c1 := c34 hL a
  have c2 := c35 hL a []
  have c3 := c36 hL a b
  have c4 := c37 hL a b []
  have c5 := c41 hL h.a hn []
  have q1 := hC.num e []
  have q2 := hC.num (decE a) []
  have q3 := hC.num (pickE a b) []
  have t1 : (h.a : Int).tmod 2 = ((h.a % 2 : Nat) : Int) := by rw [Int.tmod_eq_emod_of_nonneg (by omega)]; omega
  have w1 : IntKind.u64.wrap ((h.a % 2 : Nat) : Int) = ((h.a % 2 : Nat) : Int) := wrap_u64 (by omega) (by omega)
  have w2 : IntKind.i64.wrap ((h.a % 2 : Nat) : Int) = ((h.a % 2 : Nat) : Int) := wrapI (by omega) (by omega)
  have s1 := hd_same (decH a)
  have s2 := hd_same (pickH a b)
  have sP := str_eq P
  generalize decE a = e1 at c1 c2 q2
  generalize decH a = x at c1 c2 s1
  generalize pickE a b = e2 at c3 c4 q3
  generalize pickH a b = y at c3 c4 s2
  rw [eD] at hEN hREN hCK hMA
  unfold Hd.D at c1 c2 c3 c4
  rcases hp with ⟨rfl, he⟩ | ⟨rfl, he⟩
  · subst he
    simp only [errD_zero, pz0] at hEN hCK q1 hREN
    simp only [decide_true] at hMA
    simp only [fi6, Tryd.f6, an6, h1, h2, c0, hEN, hREN, hCK, hMA, c1, c2, c3, c4, c5, q1, q2, q3, t1, w1, w2, s1, s2, sP, bytesOf_map, errD_dem, errD_demC, errD_bor, errD_out, errD_outC, errD_ado, errD_adoC, errD_adoR, errD_plain, errD_close, errD_lsl, errD_fresh, errD_freeO, errD_freeR, errD_glob, implies_true, false_implies, D.vec.injEq, adopt.eq_1, adopt.eq_2, adopt.eq_3, adoptC.eq_1, adoptC.eq_2, adoptR.eq_1, adoptR.eq_2, outD.eq_1, outD.eq_2, outD.eq_3, outC.eq_1, outC.eq_2, D.demote.eq_1, D.demote.eq_2, D.demoteC.eq_1, D.demoteC.eq_2, St.borrow.eq_1, St.borrow.eq_2, D.isLsl.eq_1, D.isLsl.eq_2, D.fresh1.eq_1, D.fresh1.eq_2, D.fresh1.eq_3, St.close.eq_1, St.close.eq_2, T3, T4, T5, T9, T22, T33, T67, T68, T71, EL, e_finWf, e_finWt, e_finMN, e_finMX, retM, meltV, tupV, D.asBox, D.row1, D.freeR, D.freeO, List.replicate_succ, stepD, accs, accP, accW, simpleOp, isAl, isExt, flipD, D.row, D.plain, D.plain.plainL, St.close1, retV, resV, resL, outCL, outL, wantedV, opV, An.mid, thawV, St.settle, D.plainU, prune, envOf, get, put, eval, evalT, nz, argsV, capsV, ofV, binV, binV.aggV, unV, intV, eqOp, isConst, natV, optV, loadV, loadC, storeV, setC, St.at_, partV, partTy, indexAddrV, fieldAddrV, sliceV, sliceV.rowSl, sliceV.strSl, bounds, cutP, builtinV, lenV, maxL, maxV, appendV, St.elems, roomy, rowOf, rowS, isStr, esz, tdOf, convV, buildV, fillV, partsV, okParts, fillL, D.whole, demoteL, D.global, D.flat, D.leaf, D.cells, TI.agg, TD.rowish, callOpV, moveL, CC, keepB, St.borrowL, adoptCL, adoptL, List.toArray, Array.toList, Nat.reduceEqDiff, Nat.reduceAdd, Nat.reduceSub, Nat.reduceMul, Nat.reduceLeDiff, Nat.reduceLT, reduceIte, reduceCtorEq, forall_const, imp_self, Int.reduceNeg, Int.reduceLT, Int.reduceLE, Int.reduceGT, Int.reduceGE, Int.reduceAdd, Int.reduceSub, Int.reduceMul, Int.reduceToNat, Int.reduceEq, ne_eq, eq_self]
  · have he0 : ¬ (e : Int) = 0 := by omega
    simp only [errD_pos he] at hEN hCK q1
    simp only [he, decide_false] at hMA
    simp only [fi6, Tryd.f6, an6, h1, h2, c0, hEN, hREN, hCK, hMA, c1, c2, c3, c4, c5, q1, q2, q3, t1, w1, w2, s1, s2, sP, bytesOf_map, errD_dem, errD_demC, errD_bor, errD_out, errD_outC, errD_ado, errD_adoC, errD_adoR, errD_plain, errD_close, errD_lsl, errD_fresh, errD_freeO, errD_freeR, errD_glob, implies_true, false_implies, D.vec.injEq, adopt.eq_1, adopt.eq_2, adopt.eq_3, adoptC.eq_1, adoptC.eq_2, adoptR.eq_1, adoptR.eq_2, outD.eq_1, outD.eq_2, outD.eq_3, outC.eq_1, outC.eq_2, D.demote.eq_1, D.demote.eq_2, D.demoteC.eq_1, D.demoteC.eq_2, St.borrow.eq_1, St.borrow.eq_2, D.isLsl.eq_1, D.isLsl.eq_2, D.fresh1.eq_1, D.fresh1.eq_2, D.fresh1.eq_3, St.close.eq_1, St.close.eq_2, T3, T4, T5, T9, T22, T33, T67, T68, T71, EL, e_finWf, e_finWt, e_finMN, e_finMX, retM, meltV, tupV, D.asBox, D.row1, D.freeR, D.freeO, List.replicate_succ, stepD, accs, accP, accW, simpleOp, isAl, isExt, flipD, D.row, D.plain, D.plain.plainL, St.close1, retV, resV, resL, outCL, outL, wantedV, opV, An.mid, thawV, St.settle, D.plainU, prune, envOf, get, put, eval, evalT, nz, argsV, capsV, ofV, binV, binV.aggV, unV, intV, eqOp, isConst, natV, optV, loadV, loadC, storeV, setC, St.at_, partV, partTy, indexAddrV, fieldAddrV, sliceV, sliceV.rowSl, sliceV.strSl, bounds, cutP, builtinV, lenV, maxL, maxV, appendV, St.elems, roomy, rowOf, rowS, isStr, esz, tdOf, convV, buildV, fillV, partsV, okParts, fillL, D.whole, demoteL, D.global, D.flat, D.leaf, D.cells, TI.agg, TD.rowish, callOpV, moveL, CC, keepB, St.borrowL, adoptCL, adoptL, List.toArray, Array.toList, Nat.reduceEqDiff, Nat.reduceAdd, Nat.reduceSub, Nat.reduceMul, Nat.reduceLeDiff, Nat.reduceLT, reduceIte, reduceCtorEq, forall_const, imp_self, Int.reduceNeg, Int.reduceLT, Int.reduceLE, Int.reduceGT, Int.reduceGE, Int.reduceAdd, Int.reduceSub, Int.reduceMul, Int.reduceToNat, Int.reduceEq, ne_eq, eq_self]

end Go.Proofs.YtnhelkclkdfndaaDoor.V
