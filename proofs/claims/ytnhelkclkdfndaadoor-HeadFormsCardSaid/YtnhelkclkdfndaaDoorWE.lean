/-
Layer 5: the document's way to seal.
-/
import Derived.Test.YtnhelkclkdfndaaDoorWD
namespace Go.Proofs.YtnhelkclkdfndaaDoor.V
open Go Go.RowKit
set_option linter.unusedSimpArgs false
set_option linter.unusedVariables false

variable {C : Callees}

abbrev pm (b : Bool) : Perm := bif b then .own 0 else .exact
abbrev tk (b : Bool) : List Bool := bif b then [true] else []

theorem roomy_b {n : Nat} (h : n ≤ 1000000) : roomy n 1 = true := by
  simp only [roomy, nble, decide_eq_true_eq]; omega

theorem appX {xs ys : List UInt8} (hl : xs.length + ys.length ≤ 1000000) (ρ : Env) (M) (B : Hp) :
    appendV 1 1 ⟨ρ, M, [], B⟩ (.vec 1 (xs.map byteD) .exact) (ys.map byteD) = some (.vec 1 ((xs ++ ys).map byteD) (bif ys.isEmpty && !xs.isEmpty then .exact else .own 0), ⟨ρ, M, [true], B⟩) := by
  simp [appendV, roomy_b hl]
theorem appO {xs ys : List UInt8} (hl : xs.length + ys.length ≤ 1000000) (ρ : Env) (M) (B : Hp) :
    appendV 1 1 ⟨ρ, M, [true], B⟩ (.vec 1 (xs.map byteD) (.own 0)) (ys.map byteD) = some (.vec 1 ((xs ++ ys).map byteD) (.own 1), ⟨ρ, M, [false, true], B⟩) := by
  simp [appendV, roomy_b hl]

def st90 (B : Hp) (h : List UInt8) (x : Nat × Bool) : St := ⟨[(6, .vec 1 ((h ++ zers x.1).map byteD) (pm x.2))], [], tk x.2, B⟩

theorem zers_succ (j : Nat) : zers (j + 1) = zers j ++ [0] := by rw [zers_add]; rfl

set_option maxRecDepth 10000 in
theorem loop90 (C : Callees) (B : Hp) (h : List UInt8) (b : Bool) (hh : h.length ≤ 508) (hb : b = false → h.length < 508) (st : St) (hst : an90.at_ (some 7) st = st90 B h (0, b)) :
    ∃ x st', loopC T an90 C lp90_0 st = some (x, st') ∧ x = .exit 0 ∧ ∃ ρ, st' = ⟨ρ, [], [true], B⟩ ∧ get ρ 6 = .vec 1 ((h ++ zers (508 - h.length)).map byteD) (.own 0) := by
  refine loop_rule (st90 B h) (fun x => h.length + x.1 ≤ 508 ∧ (x.2 = false → h.length + x.1 < 508)) (fun x => 508 - x.1) _ ?_ (0, b) st hst ⟨hh, hb⟩
  rintro ⟨j, b⟩ ⟨hj, hb⟩
  simp only at hj hb
  have hlen : (h ++ zers j).length = h.length + j := by rw [List.length_append, zers_len]
  rcases Nat.lt_or_ge (h.length + j) 508 with h1 | h1
  · left
    refine ⟨(j + 1, true), ?_, ⟨by show h.length + (j + 1) ≤ 508; omega, fun h => by cases h⟩, by show 508 - (j + 1) < 508 - j; omega⟩
    have g0 : ((h.length + j : Nat) : Int) < 508 := by omega
    have e : h ++ zers (j + 1) = (h ++ zers j) ++ [0] := by rw [zers_succ, List.append_assoc]
    cases b
    · have a1 : ∀ ρ M B, appendV 1 1 ⟨ρ, M, [], B⟩ (.vec 1 ((h ++ zers j).map byteD) .exact) [.int .u8 0] = some (.vec 1 ((h ++ zers (j + 1)).map byteD) (.own 0), ⟨ρ, M, [true], B⟩) := fun ρ M B => by
        rw [e]
        exact appX (xs := h ++ zers j) (ys := [0]) (by rw [hlen]; show h.length + j + 1 ≤ _; omega) ρ M B
      simp only [st90, lp90_0, subC, atC, Tryd.f90, an90, g0, hlen, a1, pm, tk, T3, T5, T68, T237, EL, e_finWf, e_finWt, e_finMN, e_finMX, retM, meltV, tupV, D.asBox, D.row1, D.freeR, D.freeO, List.replicate_succ, stepD, accs, accP, accW, simpleOp, isAl, isExt, flipD, D.fresh1, D.row, D.plain, D.plain.plainL, St.close, St.close1, St.borrow, retV, resV, resL, outCL, outC, outL, outD, wantedV, opV, An.mid, thawV, St.settle, D.plainU, prune, envOf, get, put, eval, evalT, nz, argsV, capsV, ofV, binV, binV.aggV, unV, intV, eqOp, isConst, natV, optV, loadV, loadC, storeV, setC, St.at_, partV, partTy, indexAddrV, fieldAddrV, sliceV, sliceV.rowSl, sliceV.strSl, bounds, cutP, builtinV, lenV, maxL, maxV, St.elems, roomy, rowOf, rowS, isStr, esz, tdOf, convV, buildV, fillV, partsV, okParts, fillL, D.whole, D.demoteC, D.demote, demoteL, D.global, D.flat, D.leaf, D.cells, TI.agg, TD.rowish, callOpV, moveL, CC, keepB, St.borrowL, St.borrow, D.isLsl, adoptR, adoptC, adoptCL, adoptL, adopt, List.toArray, Array.toList, Nat.reduceEqDiff, Nat.reduceAdd, Nat.reduceSub, Nat.reduceMul, Nat.reduceLeDiff, Nat.reduceLT, reduceIte, reduceCtorEq, forall_const, imp_self, Int.reduceNeg, Int.reduceLT, Int.reduceLE, Int.reduceGT, Int.reduceGE, Int.reduceAdd, Int.reduceSub, Int.reduceMul, Int.reduceToNat, Int.reduceEq, ne_eq, eq_self]
      exact ⟨_, rfl, rfl⟩
    · have a1 : ∀ ρ M B, appendV 1 1 ⟨ρ, M, [true], B⟩ (.vec 1 ((h ++ zers j).map byteD) (.own 0)) [.int .u8 0] = some (.vec 1 ((h ++ zers (j + 1)).map byteD) (.own 1), ⟨ρ, M, [false, true], B⟩) := fun ρ M B => by
        rw [e]
        exact appO (xs := h ++ zers j) (ys := [0]) (by rw [hlen]; show h.length + j + 1 ≤ _; omega) ρ M B
      simp only [st90, lp90_0, subC, atC, Tryd.f90, an90, g0, hlen, a1, pm, tk, T3, T5, T68, T237, EL, e_finWf, e_finWt, e_finMN, e_finMX, retM, meltV, tupV, D.asBox, D.row1, D.freeR, D.freeO, List.replicate_succ, stepD, accs, accP, accW, simpleOp, isAl, isExt, flipD, D.fresh1, D.row, D.plain, D.plain.plainL, St.close, St.close1, St.borrow, retV, resV, resL, outCL, outC, outL, outD, wantedV, opV, An.mid, thawV, St.settle, D.plainU, prune, envOf, get, put, eval, evalT, nz, argsV, capsV, ofV, binV, binV.aggV, unV, intV, eqOp, isConst, natV, optV, loadV, loadC, storeV, setC, St.at_, partV, partTy, indexAddrV, fieldAddrV, sliceV, sliceV.rowSl, sliceV.strSl, bounds, cutP, builtinV, lenV, maxL, maxV, St.elems, roomy, rowOf, rowS, isStr, esz, tdOf, convV, buildV, fillV, partsV, okParts, fillL, D.whole, D.demoteC, D.demote, demoteL, D.global, D.flat, D.leaf, D.cells, TI.agg, TD.rowish, callOpV, moveL, CC, keepB, St.borrowL, St.borrow, D.isLsl, adoptR, adoptC, adoptCL, adoptL, adopt, List.toArray, Array.toList, Nat.reduceEqDiff, Nat.reduceAdd, Nat.reduceSub, Nat.reduceMul, Nat.reduceLeDiff, Nat.reduceLT, reduceIte, reduceCtorEq, forall_const, imp_self, Int.reduceNeg, Int.reduceLT, Int.reduceLE, Int.reduceGT, Int.reduceGE, Int.reduceAdd, Int.reduceSub, Int.reduceMul, Int.reduceToNat, Int.reduceEq, ne_eq, eq_self]
      exact ⟨_, rfl, rfl⟩
  · right
    obtain rfl : j = 508 - h.length := by omega
    cases b
    · exact absurd (hb rfl) (by omega)
    · have g0 : ¬ ((h.length + (508 - h.length) : Nat) : Int) < 508 := by omega
      simp only [st90, lp90_0, subC, atC, Tryd.f90, an90, g0, hlen, pm, tk, T3, T5, T68, T237, EL, e_finWf, e_finWt, e_finMN, e_finMX, retM, meltV, tupV, D.asBox, D.row1, D.freeR, D.freeO, List.replicate_succ, stepD, accs, accP, accW, simpleOp, isAl, isExt, flipD, D.fresh1, D.row, D.plain, D.plain.plainL, St.close, St.close1, St.borrow, retV, resV, resL, outCL, outC, outL, outD, wantedV, opV, An.mid, thawV, St.settle, D.plainU, prune, envOf, get, put, eval, evalT, nz, argsV, capsV, ofV, binV, binV.aggV, unV, intV, eqOp, isConst, natV, optV, loadV, loadC, storeV, setC, St.at_, partV, partTy, indexAddrV, fieldAddrV, sliceV, sliceV.rowSl, sliceV.strSl, bounds, cutP, builtinV, lenV, maxL, maxV, appendV, St.elems, roomy, rowOf, rowS, isStr, esz, tdOf, convV, buildV, fillV, partsV, okParts, fillL, D.whole, D.demoteC, D.demote, demoteL, D.global, D.flat, D.leaf, D.cells, TI.agg, TD.rowish, callOpV, moveL, CC, keepB, St.borrowL, St.borrow, D.isLsl, adoptR, adoptC, adoptCL, adoptL, adopt, List.toArray, Array.toList, Nat.reduceEqDiff, Nat.reduceAdd, Nat.reduceSub, Nat.reduceMul, Nat.reduceLeDiff, Nat.reduceLT, reduceIte, reduceCtorEq, forall_const, imp_self, Int.reduceNeg, Int.reduceLT, Int.reduceLE, Int.reduceGT, Int.reduceGE, Int.reduceAdd, Int.reduceSub, Int.reduceMul, Int.reduceToNat, Int.reduceEq, ne_eq, eq_self]
      exact ⟨_, _, rfl, by simp, rfl, _, rfl, rfl⟩

set_option maxRecDepth 10000 in
theorem run90_kind (C : Callees) (k : UInt8) (l : List UInt8) (h : kindS k.toNat = false) (B : Hp) : runV T C fi90 [.int .u8 k.toNat, byV l .none] B = some (.tuple [.vec 1 [] .fresh, .int .i64 1], B) := by
  rw [e_run _ _ _ rfl]
  rw [kind_parts] at h
  by_cases k1 : (k.toNat : Int) < 1
  · simp only [fi90, Tryd.f90, an90, k1, T3, T5, T68, T237, EL, e_finWf, e_finWt, e_finMN, e_finMX, retM, meltV, tupV, D.asBox, D.row1, D.freeR, D.freeO, List.replicate_succ, stepD, accs, accP, accW, simpleOp, isAl, isExt, flipD, D.fresh1, D.row, D.plain, D.plain.plainL, St.close, St.close1, St.borrow, retV, resV, resL, outCL, outC, outL, outD, wantedV, opV, An.mid, thawV, St.settle, D.plainU, prune, envOf, get, put, eval, evalT, nz, argsV, capsV, ofV, binV, binV.aggV, unV, intV, eqOp, isConst, natV, optV, loadV, loadC, storeV, setC, St.at_, partV, partTy, indexAddrV, fieldAddrV, sliceV, sliceV.rowSl, sliceV.strSl, bounds, cutP, builtinV, lenV, maxL, maxV, appendV, St.elems, roomy, rowOf, rowS, isStr, esz, tdOf, convV, buildV, fillV, partsV, okParts, fillL, D.whole, D.demoteC, D.demote, demoteL, D.global, D.flat, D.leaf, D.cells, TI.agg, TD.rowish, callOpV, moveL, CC, keepB, St.borrowL, St.borrow, D.isLsl, adoptR, adoptC, adoptCL, adoptL, adopt, List.toArray, Array.toList, Nat.reduceEqDiff, Nat.reduceAdd, Nat.reduceSub, Nat.reduceMul, Nat.reduceLeDiff, Nat.reduceLT, reduceIte, reduceCtorEq, forall_const, imp_self, Int.reduceNeg, Int.reduceLT, Int.reduceLE, Int.reduceGT, Int.reduceGE, Int.reduceAdd, Int.reduceSub, Int.reduceMul, Int.reduceToNat, Int.reduceEq, ne_eq, eq_self]
  · rw [decide_eq_false k1, Bool.not_false, Bool.true_and, Bool.not_eq_false', decide_eq_true_eq] at h
    simp only [fi90, Tryd.f90, an90, k1, h, T3, T5, T68, T237, EL, e_finWf, e_finWt, e_finMN, e_finMX, retM, meltV, tupV, D.asBox, D.row1, D.freeR, D.freeO, List.replicate_succ, stepD, accs, accP, accW, simpleOp, isAl, isExt, flipD, D.fresh1, D.row, D.plain, D.plain.plainL, St.close, St.close1, St.borrow, retV, resV, resL, outCL, outC, outL, outD, wantedV, opV, An.mid, thawV, St.settle, D.plainU, prune, envOf, get, put, eval, evalT, nz, argsV, capsV, ofV, binV, binV.aggV, unV, intV, eqOp, isConst, natV, optV, loadV, loadC, storeV, setC, St.at_, partV, partTy, indexAddrV, fieldAddrV, sliceV, sliceV.rowSl, sliceV.strSl, bounds, cutP, builtinV, lenV, maxL, maxV, appendV, St.elems, roomy, rowOf, rowS, isStr, esz, tdOf, convV, buildV, fillV, partsV, okParts, fillL, D.whole, D.demoteC, D.demote, demoteL, D.global, D.flat, D.leaf, D.cells, TI.agg, TD.rowish, callOpV, moveL, CC, keepB, St.borrowL, St.borrow, D.isLsl, adoptR, adoptC, adoptCL, adoptL, adopt, List.toArray, Array.toList, Nat.reduceEqDiff, Nat.reduceAdd, Nat.reduceSub, Nat.reduceMul, Nat.reduceLeDiff, Nat.reduceLT, reduceIte, reduceCtorEq, forall_const, imp_self, Int.reduceNeg, Int.reduceLT, Int.reduceLE, Int.reduceGT, Int.reduceGE, Int.reduceAdd, Int.reduceSub, Int.reduceMul, Int.reduceToNat, Int.reduceEq, ne_eq, eq_self]
set_option maxRecDepth 10000 in
theorem run90_long (C : Callees) (k : UInt8) (l : List UInt8) (h : kindS k.toNat = true) (hl : 504 < l.length) (B : Hp) : runV T C fi90 [.int .u8 k.toNat, byV l .none] B = some (.tuple [.vec 1 [] .fresh, .int .i64 5], B) := by
  rw [e_run _ _ _ rfl]
  rw [kind_parts, Bool.and_eq_true, Bool.not_eq_true', Bool.not_eq_true', decide_eq_false_iff_not, decide_eq_false_iff_not] at h
  obtain ⟨k1, k2⟩ := h
  have h1 : (l.length : Int) > 504 := by omega
  simp only [fi90, Tryd.f90, an90, k1, k2, h1, T3, T5, T68, T237, EL, e_finWf, e_finWt, e_finMN, e_finMX, retM, meltV, tupV, D.asBox, D.row1, D.freeR, D.freeO, List.replicate_succ, stepD, accs, accP, accW, simpleOp, isAl, isExt, flipD, D.fresh1, D.row, D.plain, D.plain.plainL, St.close, St.close1, St.borrow, retV, resV, resL, outCL, outC, outL, outD, wantedV, opV, An.mid, thawV, St.settle, D.plainU, prune, envOf, get, put, eval, evalT, nz, argsV, capsV, ofV, binV, binV.aggV, unV, intV, eqOp, isConst, natV, optV, loadV, loadC, storeV, setC, St.at_, partV, partTy, indexAddrV, fieldAddrV, sliceV, sliceV.rowSl, sliceV.strSl, bounds, cutP, builtinV, lenV, maxL, maxV, appendV, St.elems, roomy, rowOf, rowS, isStr, esz, tdOf, convV, buildV, fillV, partsV, okParts, fillL, D.whole, D.demoteC, D.demote, demoteL, D.global, D.flat, D.leaf, D.cells, TI.agg, TD.rowish, callOpV, moveL, CC, keepB, St.borrowL, St.borrow, D.isLsl, adoptR, adoptC, adoptCL, adoptL, adopt, List.toArray, Array.toList, Nat.reduceEqDiff, Nat.reduceAdd, Nat.reduceSub, Nat.reduceMul, Nat.reduceLeDiff, Nat.reduceLT, reduceIte, reduceCtorEq, forall_const, imp_self, Int.reduceNeg, Int.reduceLT, Int.reduceLE, Int.reduceGT, Int.reduceGE, Int.reduceAdd, Int.reduceSub, Int.reduceMul, Int.reduceToNat, Int.reduceEq, ne_eq, eq_self]

theorem bes4 (s : Nat) : bes s 4 = [byteAt s 3, byteAt s 2, byteAt s 1, byteAt s 0] := rfl
theorem bes2 (s : Nat) : bes s 2 = [byteAt s 1, byteAt s 0] := rfl
theorem byteAt_nat {s i v : Nat} (h : s / 256 ^ i % 256 = v) : ((byteAt s i).toNat : Int) = (v : Nat) := by
  unfold byteAt
  rw [UInt8.toNat_ofNat', ← h]

set_option maxRecDepth 10000 in
set_option maxHeartbeats 2000000 in
theorem run90_ok (hC : Lib05 C) (k : UInt8) (l : List UInt8) (h : kindS k.toNat = true) (hl : l.length ≤ 504) (B : Hp) : runV T C fi90 [.int .u8 k.toNat, byV l .none] B = some (.tuple [.vec 1 ((pag k l).map byteD) .fresh, .int .i64 0], B) := by
  rw [e_run _ _ _ rfl]
  rw [kind_parts, Bool.and_eq_true, Bool.not_eq_true', Bool.not_eq_true', decide_eq_false_iff_not, decide_eq_false_iff_not] at h
  obtain ⟨k1, k2⟩ := h
  have h1 : ¬ (l.length : Int) > 504 := by omega
  have t1 : (l.length : Int).tdiv 256 = ((l.length / 256 : Nat) : Int) := by rw [Int.tdiv_eq_ediv_of_nonneg (by omega)]; omega
  have t2 : (l.length : Int).tmod 256 = ((l.length % 256 : Nat) : Int) := by rw [Int.tmod_eq_emod_of_nonneg (by omega)]; omega
  have w1 : IntKind.i64.wrap ((l.length / 256 : Nat) : Int) = ((l.length / 256 : Nat) : Int) := wrapI (by omega) (by omega)
  have w2 : IntKind.u8.wrap ((l.length / 256 : Nat) : Int) = ((byteAt l.length 1).toNat : Int) := by rw [wrap_u8 (by omega) (by omega)]; exact (byteAt_nat (by omega)).symm
  have w3 : IntKind.u8.wrap ((l.length % 256 : Nat) : Int) = ((byteAt l.length 0).toNat : Int) := by rw [wrap_u8 (by omega) (by omega)]; exact (byteAt_nat (by omega)).symm
  have hh : (hdr k l.length ++ l).length = 4 + l.length := by rw [List.length_append, hdr_len]
  have a1 : ∀ ρ M B, appendV 1 1 ⟨ρ, M, [], B⟩ (.vec 1 [.int .u8 k.toNat, .int .u8 0, .int .u8 (byteAt l.length 1).toNat, .int .u8 (byteAt l.length 0).toNat] .exact) (l.map byteD) = some (.vec 1 ((hdr k l.length ++ l).map byteD) (bif l.isEmpty then .exact else .own 0), ⟨ρ, M, [true], B⟩) := fun ρ M B => by
    have := appX (xs := hdr k l.length) (ys := l) (by rw [hdr_len]; omega) ρ M B
    rw [show (l.isEmpty && !(hdr k l.length).isEmpty) = l.isEmpty by unfold hdr; simp] at this
    exact this
  have hf := frt_len (k := k) hl
  have ef : hdr k l.length ++ l ++ zers (508 - (hdr k l.length ++ l).length) = frt k l := by
    rw [hh, show 508 - (4 + l.length) = 504 - l.length by omega]; rfl
  have hs := more_lt 0 (frt k l)
  have c1 : ∀ B, C 137 [.int .u32 0, .vec 1 ((frt k l).map byteD) .none] B = some (.int .u32 (moreS 0 (frt k l) : Nat), B) := c137 hC.toLibCrc 0 (by decide) (frt k l) (by rw [hf]; decide)
  have a2 : ∀ ρ M B, appendV 1 1 ⟨ρ, M, [true], B⟩ (.vec 1 ((frt k l).map byteD) (.own 0)) [.int .u8 (byteAt (moreS 0 (frt k l)) 3).toNat, .int .u8 (byteAt (moreS 0 (frt k l)) 2).toNat, .int .u8 (byteAt (moreS 0 (frt k l)) 1).toNat, .int .u8 (byteAt (moreS 0 (frt k l)) 0).toNat] = some (.vec 1 ((pag k l).map byteD) (.own 1), ⟨ρ, M, [false, true], B⟩) := fun ρ M B =>
    appO (xs := frt k l) (ys := bes (moreS 0 (frt k l)) 4) (by rw [hf, bes_length]; decide) ρ M B
  generalize moreS 0 (frt k l) = s at c1 a2 hs
  have d1 : IntKind.u8.wrap (IntKind.u32.wrap ((s : Int).tdiv 16777216)) = ((byteAt s 3).toNat : Int) := by
    rw [Int.tdiv_eq_ediv_of_nonneg (by omega), wrap_u32 (by omega) (by omega), wrap_u8 (by omega) (by omega), byteAt_nat (v := s / 16777216) (by omega)]; omega
  have d2 : IntKind.u8.wrap ((IntKind.u32.wrap ((s : Int).tdiv 65536)).tmod 256) = ((byteAt s 2).toNat : Int) := by
    rw [Int.tdiv_eq_ediv_of_nonneg (by omega), wrap_u32 (by omega) (by omega), Int.tmod_eq_emod_of_nonneg (by omega), wrap_u8 (by omega) (by omega), byteAt_nat (v := s / 65536 % 256) (by omega)]; omega
  have d3 : IntKind.u8.wrap ((IntKind.u32.wrap ((s : Int).tdiv 256)).tmod 256) = ((byteAt s 1).toNat : Int) := by
    rw [Int.tdiv_eq_ediv_of_nonneg (by omega), wrap_u32 (by omega) (by omega), Int.tmod_eq_emod_of_nonneg (by omega), wrap_u8 (by omega) (by omega), byteAt_nat (v := s / 256 % 256) (by omega)]; omega
  have d4 : IntKind.u8.wrap ((s : Int).tmod 256) = ((byteAt s 0).toNat : Int) := by
    rw [Int.tmod_eq_emod_of_nonneg (by omega), wrap_u8 (by omega) (by omega), byteAt_nat (v := s % 256) (by omega)]; omega
  cases he : l.isEmpty <;> simp only [he, cond_true, cond_false] at a1
  · simp only [fi90, Tryd.f90, an90, k1, k2, h1, t1, t2, w1, w2, w3, a1, T3, T5, T68, T237, EL, e_finWf, e_finWt, e_finMN, e_finMX, retM, meltV, tupV, D.asBox, D.row1, D.freeR, D.freeO, List.replicate_succ, stepD, accs, accP, accW, simpleOp, isAl, isExt, flipD, D.fresh1, D.row, D.plain, D.plain.plainL, St.close, St.close1, St.borrow, retV, resV, resL, outCL, outC, outL, outD, wantedV, opV, An.mid, thawV, St.settle, D.plainU, prune, envOf, get, put, eval, evalT, nz, argsV, capsV, ofV, binV, binV.aggV, unV, intV, eqOp, isConst, natV, optV, loadV, loadC, storeV, setC, St.at_, partV, partTy, indexAddrV, fieldAddrV, sliceV, sliceV.rowSl, sliceV.strSl, bounds, cutP, builtinV, lenV, maxL, maxV, St.elems, roomy, rowOf, rowS, isStr, esz, tdOf, convV, buildV, fillV, partsV, okParts, fillL, D.whole, D.demoteC, D.demote, demoteL, D.global, D.flat, D.leaf, D.cells, TI.agg, TD.rowish, callOpV, moveL, CC, keepB, St.borrowL, St.borrow, D.isLsl, adoptR, adoptC, adoptCL, adoptL, adopt, List.toArray, Array.toList, Nat.reduceEqDiff, Nat.reduceAdd, Nat.reduceSub, Nat.reduceMul, Nat.reduceLeDiff, Nat.reduceLT, reduceIte, reduceCtorEq, forall_const, imp_self, Int.reduceNeg, Int.reduceLT, Int.reduceLE, Int.reduceGT, Int.reduceGE, Int.reduceAdd, Int.reduceSub, Int.reduceMul, Int.reduceToNat, Int.reduceEq, ne_eq, eq_self]
    refine' in_loop (c' := lp90_0) (fin T _ _ _) ?h rfl ?q
    case h =>
      refine loop90 C B (hdr k l.length ++ l) true (by omega) (fun h => by cases h) _ ?_
      simp only [an90, ren_map, toks_map, boxes_map, st90, pm, tk, zers, An.at_, tidyV, tidyW, tidyB, tidyT, sift, envBoxes, envToks, conToks, D.toks, D.tok1, toksL, D.boxes, D.box1, boxesL, memN, posN, renE, D.ren, D.ren1, renL, renB, St.content, St.boxOk, St.tokOk, trues, T3, T5, T68, T237, EL, e_finWf, e_finWt, e_finMN, e_finMX, retM, meltV, tupV, D.asBox, D.row1, D.freeR, D.freeO, List.replicate_succ, stepD, accs, accP, accW, simpleOp, isAl, isExt, flipD, D.fresh1, D.row, D.plain, D.plain.plainL, St.close, St.close1, St.borrow, retV, resV, resL, outCL, outC, outL, outD, wantedV, opV, An.mid, thawV, St.settle, D.plainU, prune, envOf, get, put, eval, evalT, nz, argsV, capsV, ofV, binV, binV.aggV, unV, intV, eqOp, isConst, natV, optV, loadV, loadC, storeV, setC, St.at_, partV, partTy, indexAddrV, fieldAddrV, sliceV, sliceV.rowSl, sliceV.strSl, bounds, cutP, builtinV, lenV, maxL, maxV, appendV, St.elems, roomy, rowOf, rowS, isStr, esz, tdOf, convV, buildV, fillV, partsV, okParts, fillL, D.whole, D.demoteC, D.demote, demoteL, D.global, D.flat, D.leaf, D.cells, TI.agg, TD.rowish, callOpV, moveL, CC, keepB, St.borrowL, St.borrow, D.isLsl, adoptR, adoptC, adoptCL, adoptL, adopt, List.toArray, Array.toList, Nat.reduceEqDiff, Nat.reduceAdd, Nat.reduceSub, Nat.reduceMul, Nat.reduceLeDiff, Nat.reduceLT, reduceIte, reduceCtorEq, forall_const, imp_self, Int.reduceNeg, Int.reduceLT, Int.reduceLE, Int.reduceGT, Int.reduceGE, Int.reduceAdd, Int.reduceSub, Int.reduceMul, Int.reduceToNat, Int.reduceEq, ne_eq, eq_self]
      all_goals rw [List.append_nil]
    rintro x st' ⟨rfl, ρ, rfl, r6⟩
    rw [ef] at r6
    simp only [r6, c1, d1, d2, d3, d4, a2, T3, T5, T68, T237, EL, e_finWf, e_finWt, e_finMN, e_finMX, retM, meltV, tupV, D.asBox, D.row1, D.freeR, D.freeO, List.replicate_succ, stepD, accs, accP, accW, simpleOp, isAl, isExt, flipD, D.fresh1, D.row, D.plain, D.plain.plainL, St.close, St.close1, St.borrow, retV, resV, resL, outCL, outC, outL, outD, wantedV, opV, An.mid, thawV, St.settle, D.plainU, prune, envOf, get, put, eval, evalT, nz, argsV, capsV, ofV, binV, binV.aggV, unV, intV, eqOp, isConst, natV, optV, loadV, loadC, storeV, setC, St.at_, partV, partTy, indexAddrV, fieldAddrV, sliceV, sliceV.rowSl, sliceV.strSl, bounds, cutP, builtinV, lenV, maxL, maxV, St.elems, roomy, rowOf, rowS, isStr, esz, tdOf, convV, buildV, fillV, partsV, okParts, fillL, D.whole, D.demoteC, D.demote, demoteL, D.global, D.flat, D.leaf, D.cells, TI.agg, TD.rowish, callOpV, moveL, CC, keepB, St.borrowL, St.borrow, D.isLsl, adoptR, adoptC, adoptCL, adoptL, adopt, List.toArray, Array.toList, Nat.reduceEqDiff, Nat.reduceAdd, Nat.reduceSub, Nat.reduceMul, Nat.reduceLeDiff, Nat.reduceLT, reduceIte, reduceCtorEq, forall_const, imp_self, Int.reduceNeg, Int.reduceLT, Int.reduceLE, Int.reduceGT, Int.reduceGE, Int.reduceAdd, Int.reduceSub, Int.reduceMul, Int.reduceToNat, Int.reduceEq, ne_eq, eq_self]
  · simp only [fi90, Tryd.f90, an90, k1, k2, h1, t1, t2, w1, w2, w3, a1, T3, T5, T68, T237, EL, e_finWf, e_finWt, e_finMN, e_finMX, retM, meltV, tupV, D.asBox, D.row1, D.freeR, D.freeO, List.replicate_succ, stepD, accs, accP, accW, simpleOp, isAl, isExt, flipD, D.fresh1, D.row, D.plain, D.plain.plainL, St.close, St.close1, St.borrow, retV, resV, resL, outCL, outC, outL, outD, wantedV, opV, An.mid, thawV, St.settle, D.plainU, prune, envOf, get, put, eval, evalT, nz, argsV, capsV, ofV, binV, binV.aggV, unV, intV, eqOp, isConst, natV, optV, loadV, loadC, storeV, setC, St.at_, partV, partTy, indexAddrV, fieldAddrV, sliceV, sliceV.rowSl, sliceV.strSl, bounds, cutP, builtinV, lenV, maxL, maxV, St.elems, roomy, rowOf, rowS, isStr, esz, tdOf, convV, buildV, fillV, partsV, okParts, fillL, D.whole, D.demoteC, D.demote, demoteL, D.global, D.flat, D.leaf, D.cells, TI.agg, TD.rowish, callOpV, moveL, CC, keepB, St.borrowL, St.borrow, D.isLsl, adoptR, adoptC, adoptCL, adoptL, adopt, List.toArray, Array.toList, Nat.reduceEqDiff, Nat.reduceAdd, Nat.reduceSub, Nat.reduceMul, Nat.reduceLeDiff, Nat.reduceLT, reduceIte, reduceCtorEq, forall_const, imp_self, Int.reduceNeg, Int.reduceLT, Int.reduceLE, Int.reduceGT, Int.reduceGE, Int.reduceAdd, Int.reduceSub, Int.reduceMul, Int.reduceToNat, Int.reduceEq, ne_eq, eq_self]
    have hl0 : l.length = 0 := by rw [List.isEmpty_iff] at he; rw [he]; rfl
    refine' in_loop (c' := lp90_0) (fin T _ _ _) ?h2 rfl ?q2
    case h2 =>
      refine loop90 C B (hdr k l.length ++ l) false (by omega) (fun _ => by omega) _ ?_
      simp only [an90, ren_map, toks_map, boxes_map, st90, pm, tk, zers, An.at_, tidyV, tidyW, tidyB, tidyT, sift, envBoxes, envToks, conToks, D.toks, D.tok1, toksL, D.boxes, D.box1, boxesL, memN, posN, renE, D.ren, D.ren1, renL, renB, St.content, St.boxOk, St.tokOk, trues, T3, T5, T68, T237, EL, e_finWf, e_finWt, e_finMN, e_finMX, retM, meltV, tupV, D.asBox, D.row1, D.freeR, D.freeO, List.replicate_succ, stepD, accs, accP, accW, simpleOp, isAl, isExt, flipD, D.fresh1, D.row, D.plain, D.plain.plainL, St.close, St.close1, St.borrow, retV, resV, resL, outCL, outC, outL, outD, wantedV, opV, An.mid, thawV, St.settle, D.plainU, prune, envOf, get, put, eval, evalT, nz, argsV, capsV, ofV, binV, binV.aggV, unV, intV, eqOp, isConst, natV, optV, loadV, loadC, storeV, setC, St.at_, partV, partTy, indexAddrV, fieldAddrV, sliceV, sliceV.rowSl, sliceV.strSl, bounds, cutP, builtinV, lenV, maxL, maxV, appendV, St.elems, roomy, rowOf, rowS, isStr, esz, tdOf, convV, buildV, fillV, partsV, okParts, fillL, D.whole, D.demoteC, D.demote, demoteL, D.global, D.flat, D.leaf, D.cells, TI.agg, TD.rowish, callOpV, moveL, CC, keepB, St.borrowL, St.borrow, D.isLsl, adoptR, adoptC, adoptCL, adoptL, adopt, List.toArray, Array.toList, Nat.reduceEqDiff, Nat.reduceAdd, Nat.reduceSub, Nat.reduceMul, Nat.reduceLeDiff, Nat.reduceLT, reduceIte, reduceCtorEq, forall_const, imp_self, Int.reduceNeg, Int.reduceLT, Int.reduceLE, Int.reduceGT, Int.reduceGE, Int.reduceAdd, Int.reduceSub, Int.reduceMul, Int.reduceToNat, Int.reduceEq, ne_eq, eq_self]
      all_goals rw [List.append_nil]
    rintro x st' ⟨rfl, ρ, rfl, r6⟩
    rw [ef] at r6
    simp only [r6, c1, d1, d2, d3, d4, a2, T3, T5, T68, T237, EL, e_finWf, e_finWt, e_finMN, e_finMX, retM, meltV, tupV, D.asBox, D.row1, D.freeR, D.freeO, List.replicate_succ, stepD, accs, accP, accW, simpleOp, isAl, isExt, flipD, D.fresh1, D.row, D.plain, D.plain.plainL, St.close, St.close1, St.borrow, retV, resV, resL, outCL, outC, outL, outD, wantedV, opV, An.mid, thawV, St.settle, D.plainU, prune, envOf, get, put, eval, evalT, nz, argsV, capsV, ofV, binV, binV.aggV, unV, intV, eqOp, isConst, natV, optV, loadV, loadC, storeV, setC, St.at_, partV, partTy, indexAddrV, fieldAddrV, sliceV, sliceV.rowSl, sliceV.strSl, bounds, cutP, builtinV, lenV, maxL, maxV, St.elems, roomy, rowOf, rowS, isStr, esz, tdOf, convV, buildV, fillV, partsV, okParts, fillL, D.whole, D.demoteC, D.demote, demoteL, D.global, D.flat, D.leaf, D.cells, TI.agg, TD.rowish, callOpV, moveL, CC, keepB, St.borrowL, St.borrow, D.isLsl, adoptR, adoptC, adoptCL, adoptL, adopt, List.toArray, Array.toList, Nat.reduceEqDiff, Nat.reduceAdd, Nat.reduceSub, Nat.reduceMul, Nat.reduceLeDiff, Nat.reduceLT, reduceIte, reduceCtorEq, forall_const, imp_self, Int.reduceNeg, Int.reduceLT, Int.reduceLE, Int.reduceGT, Int.reduceGE, Int.reduceAdd, Int.reduceSub, Int.reduceMul, Int.reduceToNat, Int.reduceEq, ne_eq, eq_self]

theorem rs_kind (hC : Lib05 C) (k : UInt8) (l : List UInt8) (h : kindS k.toNat = false) (B : Hp) : C 90 [.int .u8 k.toNat, .vec 1 (l.map byteD) .none] B = some (.tuple [.vec 1 [] .fresh, .int .i64 1], B) := hC.f90 _ _ _ (run90_kind C k l h B)
theorem rs_long (hC : Lib05 C) (k : UInt8) (l : List UInt8) (h : kindS k.toNat = true) (hl : 504 < l.length) (B : Hp) : C 90 [.int .u8 k.toNat, .vec 1 (l.map byteD) .none] B = some (.tuple [.vec 1 [] .fresh, .int .i64 5], B) := hC.f90 _ _ _ (run90_long C k l h hl B)
theorem rs_ok (hC : Lib05 C) (k : UInt8) (l : List UInt8) (h : kindS k.toNat = true) (hl : l.length ≤ 504) (B : Hp) : C 90 [.int .u8 k.toNat, .vec 1 (l.map byteD) .none] B = some (.tuple [.vec 1 ((pag k l).map byteD) .fresh, .int .i64 0], B) := hC.f90 _ _ _ (run90_ok hC k l h hl B)

end Go.Proofs.YtnhelkclkdfndaaDoor.V
