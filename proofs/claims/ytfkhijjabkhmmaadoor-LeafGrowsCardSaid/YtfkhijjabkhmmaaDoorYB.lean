/-
Layer 3, for other layers: Get.
-/
import Derived.Test.YtfkhijjabkhmmaaDoorYA
namespace Go.Proofs.YtfkhijjabkhmmaaDoor.V
open Go Go.RowKit
set_option linter.unusedSimpArgs false
set_option linter.unusedVariables false


variable {C : Callees}

/-- The number at the beginning of bytes from place i on; or the error's number. -/
def vgetS : List UInt8 → Nat → Nat → Nat × Nat × Nat
  | [], _, _ => (0, 0, 6)
  | c :: r, i, v => if i = 9 ∧ 1 < c.toNat then (0, 0, 2) else if c.toNat = 0 ∧ 0 < i then (0, 0, 3) else
    if c.toNat < 128 then (v + c.toNat * 128 ^ i, i + 1, 0) else vgetS r (i + 1) (v + (c.toNat - 128) * 128 ^ i)


def st69 (l : List UInt8) (d : D) (v : Nat) (k : Nat) (B : Hp) : St := ⟨[(5, .int .u64 v), (8, d), (9, .int .i64 l.length), (10, .int .i64 k)], [], [], B⟩

set_option maxRecDepth 10000 in
theorem body69_end (C : Callees) (l : List UInt8) (d : D) (v : Nat) (B : Hp) :
    ∃ ρ, go T an69 C lp69_0 .top (st69 l d v l.length B) = some (.exit 0, ⟨ρ, [], [], B⟩) := by
  simp only [st69, lp69_0, subC, atC, Tryd.f69, an69, Int.lt_irrefl, T3, T5, T23, T84, T85, T132, EL, e_finWf, e_finWt, e_finMN, e_finMX, retM, meltV, tupV, D.asBox, D.row1, D.freeR, D.freeO, List.replicate_succ, stepD, accs, accP, accW, simpleOp, isAl, isExt, flipD, D.fresh1, D.row, D.plain, D.plain.plainL, St.close, St.close1, St.borrow, retV, resV, resL, outCL, outC, outL, outD, wantedV, opV, An.mid, thawV, St.settle, D.plainU, prune, envOf, get, put, eval, evalT, nz, argsV, capsV, ofV, binV, binV.aggV, unV, intV, eqOp, isConst, natV, optV, loadV, loadC, storeV, setC, St.at_, partV, partTy, indexAddrV, fieldAddrV, sliceV, sliceV.rowSl, sliceV.strSl, bounds, cutP, builtinV, lenV, maxL, maxV, appendV, St.elems, roomy, rowOf, rowS, isStr, esz, tdOf, convV, buildV, fillV, partsV, okParts, fillL, D.whole, D.demoteC, D.demote, demoteL, D.global, D.flat, D.leaf, D.cells, TI.agg, TD.rowish, callOpV, moveL, CC, keepB, St.borrowL, St.borrow, D.isLsl, adoptR, adoptC, adoptCL, adoptL, adopt, List.toArray, Array.toList, Nat.reduceEqDiff, Nat.reduceAdd, Nat.reduceSub, Nat.reduceMul, Nat.reduceLeDiff, Nat.reduceLT, reduceIte, reduceCtorEq, forall_const, imp_self, Int.reduceNeg, Int.reduceLT, Int.reduceLE, Int.reduceGT, Int.reduceGE, Int.reduceAdd, Int.reduceSub, Int.reduceMul, Int.reduceToNat, Int.reduceEq, ne_eq, eq_self]
  exact ⟨_, rfl⟩

theorem not_128 (c : UInt8) : bitsV .andNot .u8 (c.toNat : Int) 128 = ((c.toNat % 128 : Nat) : Int) := by
  have e2 : (128 : Int) = ((128 : Nat) : Int) := rfl
  rw [e2, bits_nat rfl _ _ _ (by show c.toNat < 2 ^ 8; exact c.toNat_lt) (by show 128 < 2 ^ 8; omega)]
  simp only []
  have hdec : ∀ x : Fin 256, (x.val &&& (2 ^ 8 - 1 - 128)) = x.val % 128 := of_decide_eq_true (by kernel_rfl)
  have := hdec ⟨c.toNat, c.toNat_lt⟩
  exact congrArg Nat.cast this

theorem p128 (i : Nat) : (128 : Nat) ^ i = 2 ^ (7 * i) := by
  rw [Nat.pow_mul]

theorem c128_lt {c i : Nat} (hc : c < 128) (hi : i ≤ 9) (h9 : i = 9 → c ≤ 1) : c * 128 ^ i < 18446744073709551616 := by
  by_cases h : i = 9
  · subst h; have := h9 rfl; omega
  · have : 128 ^ i ≤ 128 ^ 8 := Nat.pow_le_pow_right (by omega) (by omega)
    have h2 : c * 128 ^ i ≤ 127 * 128 ^ 8 := Nat.mul_le_mul (by omega) this
    omega

theorem shl_at {c i : Nat} (hc : c < 128) (hi : i ≤ 9) (h9 : i = 9 → c ≤ 1) : shlV .u64 (c : Int) (IntKind.u64.wrap (7 * IntKind.u64.wrap (i : Int))) = ((c * 128 ^ i : Nat) : Int) := by
  rw [wrap_u64 (x := (i : Int)) (by omega) (by omega), wrap_u64 (by omega) (by omega)]
  have h1 : min (7 * (i : Int)).toNat 64 = 7 * i := by omega
  have h3 := c128_lt hc hi h9
  unfold shlV
  rw [show IntKind.u64.bits = 64 from rfl, h1]
  have h2 : (c : Int) * 2 ^ (7 * i) = ((c * 128 ^ i : Nat) : Int) := by
    rw [p128, Int.natCast_mul, Int.natCast_pow]; rfl
  rw [h2, wrap_u64 (by omega) (by omega)]

theorem or_at {v c i : Nat} (hv : v < 128 ^ i) (hc : c < 128) (hi : i ≤ 9) (h9 : i = 9 → c ≤ 1) : bitsV .or .u64 (v : Int) ((c * 128 ^ i : Nat) : Int) = ((v + c * 128 ^ i : Nat) : Int) := by
  have h3 := c128_lt hc hi h9
  have h4 : (128 : Nat) ^ i ≤ 128 ^ 9 := Nat.pow_le_pow_right (by omega) hi
  rw [bits_nat rfl _ _ _ (by show v < 2 ^ 64; omega) (by show _ < 2 ^ 64; omega)]
  simp only []
  have h5 := Nat.shiftLeft_add_eq_or_of_lt (b := v) (i := 7 * i) (by rw [← p128]; exact hv) c
  rw [Nat.shiftLeft_eq, ← p128] at h5
  rw [Nat.or_comm, ← h5, Nat.add_comm]

set_option maxRecDepth 10000 in
theorem body69_range (C : Callees) (l : List UInt8) (v : Nat) (B : Hp) (c : UInt8) (hk : l[9]? = some c) (hc : 1 < c.toNat) :
    ∃ ρ, go T an69 C lp69_0 .top (st69 l (bvV l .none) v 9 B) = some (.ret, ⟨ρ, [], [], B⟩) ∧ get ρ 2 = .int .u64 0 ∧ get ρ 3 = .int .i64 0 ∧ get ρ 4 = errD 2 := by
  have hlt : ((9 : Nat) : Int) < l.length := by have := (List.getElem?_eq_some_iff.1 hk).1; omega
  have h1 : (c.toNat : Int) > 1 := by omega
  have h9 : ((9 : Nat) : Int) = 9 := rfl
  rw [h9] at hlt
  simp only [st69, lp69_0, subC, atC, Tryd.f69, an69, hlt, h1, h9, List.getElem?_map, hk, Option.map_some, byteD, errD, T3, T5, T23, T84, T85, T132, EL, e_finWf, e_finWt, e_finMN, e_finMX, retM, meltV, tupV, D.asBox, D.row1, D.freeR, D.freeO, List.replicate_succ, stepD, accs, accP, accW, simpleOp, isAl, isExt, flipD, D.fresh1, D.row, D.plain, D.plain.plainL, St.close, St.close1, St.borrow, retV, resV, resL, outCL, outC, outL, outD, wantedV, opV, An.mid, thawV, St.settle, D.plainU, prune, envOf, get, put, eval, evalT, nz, argsV, capsV, ofV, binV, binV.aggV, unV, intV, eqOp, isConst, natV, optV, loadV, loadC, storeV, setC, St.at_, partV, partTy, indexAddrV, fieldAddrV, sliceV, sliceV.rowSl, sliceV.strSl, bounds, cutP, builtinV, lenV, maxL, maxV, appendV, St.elems, roomy, rowOf, rowS, isStr, esz, tdOf, convV, buildV, fillV, partsV, okParts, fillL, D.whole, D.demoteC, D.demote, demoteL, D.global, D.flat, D.leaf, D.cells, TI.agg, TD.rowish, callOpV, moveL, CC, keepB, St.borrowL, St.borrow, D.isLsl, adoptR, adoptC, adoptCL, adoptL, adopt, List.toArray, Array.toList, Nat.reduceEqDiff, Nat.reduceAdd, Nat.reduceSub, Nat.reduceMul, Nat.reduceLeDiff, Nat.reduceLT, reduceIte, reduceCtorEq, forall_const, imp_self, Int.reduceNeg, Int.reduceLT, Int.reduceLE, Int.reduceGT, Int.reduceGE, Int.reduceAdd, Int.reduceSub, Int.reduceMul, Int.reduceToNat, Int.reduceEq, ne_eq, eq_self]
  exact ⟨_, rfl, rfl, rfl, rfl⟩

set_option maxRecDepth 10000 in
theorem body69_form (C : Callees) (l : List UInt8) (v k : Nat) (B : Hp) (c : UInt8) (hk : l[k]? = some c) (hc : c.toNat = 0) (h0 : 0 < k) :
    ∃ ρ, go T an69 C lp69_0 .top (st69 l (bvV l .none) v k B) = some (.ret, ⟨ρ, [], [], B⟩) ∧ get ρ 2 = .int .u64 0 ∧ get ρ 3 = .int .i64 0 ∧ get ρ 4 = errD 3 := by
  have hlt : (k : Int) < l.length := by have := (List.getElem?_eq_some_iff.1 hk).1; omega
  have h1 : (k : Int) > 0 := by omega
  have h2 : (0 : Int) ≤ k := by omega
  have h3 : (c.toNat : Int) = 0 := by omega
  simp only [st69, lp69_0, subC, atC, Tryd.f69, an69, hlt, h1, h2, h3, List.getElem?_map, Int.toNat_natCast, hk, Option.map_some, byteD, errD, T3, T5, T23, T84, T85, T132, EL, e_finWf, e_finWt, e_finMN, e_finMX, retM, meltV, tupV, D.asBox, D.row1, D.freeR, D.freeO, List.replicate_succ, stepD, accs, accP, accW, simpleOp, isAl, isExt, flipD, D.fresh1, D.row, D.plain, D.plain.plainL, St.close, St.close1, St.borrow, retV, resV, resL, outCL, outC, outL, outD, wantedV, opV, An.mid, thawV, St.settle, D.plainU, prune, envOf, get, put, eval, evalT, nz, argsV, capsV, ofV, binV, binV.aggV, unV, intV, eqOp, isConst, natV, optV, loadV, loadC, storeV, setC, St.at_, partV, partTy, indexAddrV, fieldAddrV, sliceV, sliceV.rowSl, sliceV.strSl, bounds, cutP, builtinV, lenV, maxL, maxV, appendV, St.elems, roomy, rowOf, rowS, isStr, esz, tdOf, convV, buildV, fillV, partsV, okParts, fillL, D.whole, D.demoteC, D.demote, demoteL, D.global, D.flat, D.leaf, D.cells, TI.agg, TD.rowish, callOpV, moveL, CC, keepB, St.borrowL, St.borrow, D.isLsl, adoptR, adoptC, adoptCL, adoptL, adopt, List.toArray, Array.toList, Nat.reduceEqDiff, Nat.reduceAdd, Nat.reduceSub, Nat.reduceMul, Nat.reduceLeDiff, Nat.reduceLT, reduceIte, reduceCtorEq, forall_const, imp_self, Int.reduceNeg, Int.reduceLT, Int.reduceLE, Int.reduceGT, Int.reduceGE, Int.reduceAdd, Int.reduceSub, Int.reduceMul, Int.reduceToNat, Int.reduceEq, ne_eq, eq_self]
  by_cases h9 : (k : Int) = 9
  · simp only [h9, T3, T5, T23, T84, T85, T132, EL, e_finWf, e_finWt, e_finMN, e_finMX, retM, meltV, tupV, D.asBox, D.row1, D.freeR, D.freeO, List.replicate_succ, stepD, accs, accP, accW, simpleOp, isAl, isExt, flipD, D.fresh1, D.row, D.plain, D.plain.plainL, St.close, St.close1, St.borrow, retV, resV, resL, outCL, outC, outL, outD, wantedV, opV, An.mid, thawV, St.settle, D.plainU, prune, envOf, get, put, eval, evalT, nz, argsV, capsV, ofV, binV, binV.aggV, unV, intV, eqOp, isConst, natV, optV, loadV, loadC, storeV, setC, St.at_, partV, partTy, indexAddrV, fieldAddrV, sliceV, sliceV.rowSl, sliceV.strSl, bounds, cutP, builtinV, lenV, maxL, maxV, appendV, St.elems, roomy, rowOf, rowS, isStr, esz, tdOf, convV, buildV, fillV, partsV, okParts, fillL, D.whole, D.demoteC, D.demote, demoteL, D.global, D.flat, D.leaf, D.cells, TI.agg, TD.rowish, callOpV, moveL, CC, keepB, St.borrowL, St.borrow, D.isLsl, adoptR, adoptC, adoptCL, adoptL, adopt, List.toArray, Array.toList, Nat.reduceEqDiff, Nat.reduceAdd, Nat.reduceSub, Nat.reduceMul, Nat.reduceLeDiff, Nat.reduceLT, reduceIte, reduceCtorEq, forall_const, imp_self, Int.reduceNeg, Int.reduceLT, Int.reduceLE, Int.reduceGT, Int.reduceGE, Int.reduceAdd, Int.reduceSub, Int.reduceMul, Int.reduceToNat, Int.reduceEq, ne_eq, eq_self]
    exact ⟨_, rfl, rfl, rfl, rfl⟩
  · simp only [h9, h1, T3, T5, T23, T84, T85, T132, EL, e_finWf, e_finWt, e_finMN, e_finMX, retM, meltV, tupV, D.asBox, D.row1, D.freeR, D.freeO, List.replicate_succ, stepD, accs, accP, accW, simpleOp, isAl, isExt, flipD, D.fresh1, D.row, D.plain, D.plain.plainL, St.close, St.close1, St.borrow, retV, resV, resL, outCL, outC, outL, outD, wantedV, opV, An.mid, thawV, St.settle, D.plainU, prune, envOf, get, put, eval, evalT, nz, argsV, capsV, ofV, binV, binV.aggV, unV, intV, eqOp, isConst, natV, optV, loadV, loadC, storeV, setC, St.at_, partV, partTy, indexAddrV, fieldAddrV, sliceV, sliceV.rowSl, sliceV.strSl, bounds, cutP, builtinV, lenV, maxL, maxV, appendV, St.elems, roomy, rowOf, rowS, isStr, esz, tdOf, convV, buildV, fillV, partsV, okParts, fillL, D.whole, D.demoteC, D.demote, demoteL, D.global, D.flat, D.leaf, D.cells, TI.agg, TD.rowish, callOpV, moveL, CC, keepB, St.borrowL, St.borrow, D.isLsl, adoptR, adoptC, adoptCL, adoptL, adopt, List.toArray, Array.toList, Nat.reduceEqDiff, Nat.reduceAdd, Nat.reduceSub, Nat.reduceMul, Nat.reduceLeDiff, Nat.reduceLT, reduceIte, reduceCtorEq, forall_const, imp_self, Int.reduceNeg, Int.reduceLT, Int.reduceLE, Int.reduceGT, Int.reduceGE, Int.reduceAdd, Int.reduceSub, Int.reduceMul, Int.reduceToNat, Int.reduceEq, ne_eq, eq_self]
    exact ⟨_, rfl, rfl, rfl, rfl⟩

set_option maxRecDepth 10000 in
theorem body69_done (C : Callees) (l : List UInt8) (v k : Nat) (B : Hp) (c : UInt8) (hk : l[k]? = some c) (hr : ¬ (k = 9 ∧ 1 < c.toNat)) (hf : ¬ (c.toNat = 0 ∧ 0 < k)) (hc : c.toNat < 128) (hk9 : k ≤ 9) (hv : v < 128 ^ k) :
    ∃ ρ, go T an69 C lp69_0 .top (st69 l (bvV l .none) v k B) = some (.ret, ⟨ρ, [], [], B⟩) ∧ get ρ 2 = .int .u64 ((v + c.toNat * 128 ^ k : Nat) : Int) ∧ get ρ 3 = .int .i64 ((k + 1 : Nat) : Int) ∧ get ρ 4 = errD 0 := by
  have hlt : (k : Int) < l.length := by have := (List.getElem?_eq_some_iff.1 hk).1; omega
  have h2 : (0 : Int) ≤ k := by omega
  have hm : c.toNat % 128 = c.toNat := Nat.mod_eq_of_lt hc
  have h3 := not_128 c
  rw [hm] at h3
  have h4 : IntKind.u64.wrap (c.toNat : Int) = c.toNat := wrap_u64 (by omega) (by omega)
  have h5 := shl_at (c := c.toNat) (i := k) hc hk9 (by omega)
  have h6 := or_at (c := c.toNat) (i := k) hv hc hk9 (by omega)
  have h7 : (c.toNat : Int) < 128 := by omega
  have h8 : IntKind.i64.wrap ((k : Int) + 1) = ((k + 1 : Nat) : Int) := by rw [wrapI (by omega) (by omega)]; omega
  have h11 : ¬ IntKind.u64.wrap (7 * IntKind.u64.wrap (k : Int)) < 0 := by
    rw [wrap_u64 (x := (k : Int)) (by omega) (by omega), wrap_u64 (by omega) (by omega)]; omega
  by_cases h9 : (k : Int) = 9
  · have g1 : ¬ (c.toNat : Int) > 1 := by omega
    have g2 : ¬ (c.toNat : Int) = 0 := by omega
    have g3 : ((k : Int) = 9) = True := eq_true h9
    simp only [st69, lp69_0, subC, atC, Tryd.f69, an69, hlt, h2, h3, h4, h5, h6, h7, h8, h11, g1, g2, g3, List.getElem?_map, Int.toNat_natCast, hk, Option.map_some, byteD, errD, T3, T5, T23, T84, T85, T132, EL, e_finWf, e_finWt, e_finMN, e_finMX, retM, meltV, tupV, D.asBox, D.row1, D.freeR, D.freeO, List.replicate_succ, stepD, accs, accP, accW, simpleOp, isAl, isExt, flipD, D.fresh1, D.row, D.plain, D.plain.plainL, St.close, St.close1, St.borrow, retV, resV, resL, outCL, outC, outL, outD, wantedV, opV, An.mid, thawV, St.settle, D.plainU, prune, envOf, get, put, eval, evalT, nz, argsV, capsV, ofV, binV, binV.aggV, unV, intV, eqOp, isConst, natV, optV, loadV, loadC, storeV, setC, St.at_, partV, partTy, indexAddrV, fieldAddrV, sliceV, sliceV.rowSl, sliceV.strSl, bounds, cutP, builtinV, lenV, maxL, maxV, appendV, St.elems, roomy, rowOf, rowS, isStr, esz, tdOf, convV, buildV, fillV, partsV, okParts, fillL, D.whole, D.demoteC, D.demote, demoteL, D.global, D.flat, D.leaf, D.cells, TI.agg, TD.rowish, callOpV, moveL, CC, keepB, St.borrowL, St.borrow, D.isLsl, adoptR, adoptC, adoptCL, adoptL, adopt, List.toArray, Array.toList, Nat.reduceEqDiff, Nat.reduceAdd, Nat.reduceSub, Nat.reduceMul, Nat.reduceLeDiff, Nat.reduceLT, reduceIte, reduceCtorEq, forall_const, imp_self, Int.reduceNeg, Int.reduceLT, Int.reduceLE, Int.reduceGT, Int.reduceGE, Int.reduceAdd, Int.reduceSub, Int.reduceMul, Int.reduceToNat, Int.reduceEq, ne_eq, eq_self]
    exact ⟨_, rfl, rfl, rfl, rfl⟩
  · by_cases g2 : (c.toNat : Int) = 0
    · have g3 : ¬ (k : Int) > 0 := by omega
      have g4 : ((c.toNat : Int) = 0) = True := eq_true g2
      simp only [st69, lp69_0, subC, atC, Tryd.f69, an69, hlt, h2, h3, h4, h5, h6, h7, h8, h11, h9, g3, g4, List.getElem?_map, Int.toNat_natCast, hk, Option.map_some, byteD, errD, T3, T5, T23, T84, T85, T132, EL, e_finWf, e_finWt, e_finMN, e_finMX, retM, meltV, tupV, D.asBox, D.row1, D.freeR, D.freeO, List.replicate_succ, stepD, accs, accP, accW, simpleOp, isAl, isExt, flipD, D.fresh1, D.row, D.plain, D.plain.plainL, St.close, St.close1, St.borrow, retV, resV, resL, outCL, outC, outL, outD, wantedV, opV, An.mid, thawV, St.settle, D.plainU, prune, envOf, get, put, eval, evalT, nz, argsV, capsV, ofV, binV, binV.aggV, unV, intV, eqOp, isConst, natV, optV, loadV, loadC, storeV, setC, St.at_, partV, partTy, indexAddrV, fieldAddrV, sliceV, sliceV.rowSl, sliceV.strSl, bounds, cutP, builtinV, lenV, maxL, maxV, appendV, St.elems, roomy, rowOf, rowS, isStr, esz, tdOf, convV, buildV, fillV, partsV, okParts, fillL, D.whole, D.demoteC, D.demote, demoteL, D.global, D.flat, D.leaf, D.cells, TI.agg, TD.rowish, callOpV, moveL, CC, keepB, St.borrowL, St.borrow, D.isLsl, adoptR, adoptC, adoptCL, adoptL, adopt, List.toArray, Array.toList, Nat.reduceEqDiff, Nat.reduceAdd, Nat.reduceSub, Nat.reduceMul, Nat.reduceLeDiff, Nat.reduceLT, reduceIte, reduceCtorEq, forall_const, imp_self, Int.reduceNeg, Int.reduceLT, Int.reduceLE, Int.reduceGT, Int.reduceGE, Int.reduceAdd, Int.reduceSub, Int.reduceMul, Int.reduceToNat, Int.reduceEq, ne_eq, eq_self]
      exact ⟨_, rfl, rfl, rfl, rfl⟩
    · simp only [st69, lp69_0, subC, atC, Tryd.f69, an69, hlt, h2, h3, h4, h5, h6, h7, h8, h11, h9, g2, List.getElem?_map, Int.toNat_natCast, hk, Option.map_some, byteD, errD, T3, T5, T23, T84, T85, T132, EL, e_finWf, e_finWt, e_finMN, e_finMX, retM, meltV, tupV, D.asBox, D.row1, D.freeR, D.freeO, List.replicate_succ, stepD, accs, accP, accW, simpleOp, isAl, isExt, flipD, D.fresh1, D.row, D.plain, D.plain.plainL, St.close, St.close1, St.borrow, retV, resV, resL, outCL, outC, outL, outD, wantedV, opV, An.mid, thawV, St.settle, D.plainU, prune, envOf, get, put, eval, evalT, nz, argsV, capsV, ofV, binV, binV.aggV, unV, intV, eqOp, isConst, natV, optV, loadV, loadC, storeV, setC, St.at_, partV, partTy, indexAddrV, fieldAddrV, sliceV, sliceV.rowSl, sliceV.strSl, bounds, cutP, builtinV, lenV, maxL, maxV, appendV, St.elems, roomy, rowOf, rowS, isStr, esz, tdOf, convV, buildV, fillV, partsV, okParts, fillL, D.whole, D.demoteC, D.demote, demoteL, D.global, D.flat, D.leaf, D.cells, TI.agg, TD.rowish, callOpV, moveL, CC, keepB, St.borrowL, St.borrow, D.isLsl, adoptR, adoptC, adoptCL, adoptL, adopt, List.toArray, Array.toList, Nat.reduceEqDiff, Nat.reduceAdd, Nat.reduceSub, Nat.reduceMul, Nat.reduceLeDiff, Nat.reduceLT, reduceIte, reduceCtorEq, forall_const, imp_self, Int.reduceNeg, Int.reduceLT, Int.reduceLE, Int.reduceGT, Int.reduceGE, Int.reduceAdd, Int.reduceSub, Int.reduceMul, Int.reduceToNat, Int.reduceEq, ne_eq, eq_self]
      exact ⟨_, rfl, rfl, rfl, rfl⟩

set_option maxRecDepth 10000 in
theorem body69_next (C : Callees) (l : List UInt8) (v k : Nat) (B : Hp) (c : UInt8) (hk : l[k]? = some c) (hc : ¬ c.toNat < 128) (hk9 : k < 9) (hv : v < 128 ^ k) :
    ∃ ρ, go T an69 C lp69_0 .top (st69 l (bvV l .none) v k B) = some (.norm, ⟨ρ, [], [], B⟩) ∧ an69.at_ (some 3) ⟨ρ, [], [], B⟩ = st69 l (bvV l .none) (v + (c.toNat - 128) * 128 ^ k) (k + 1) B := by
  have hlt : (k : Int) < l.length := by have := (List.getElem?_eq_some_iff.1 hk).1; omega
  have h2 : (0 : Int) ≤ k := by omega
  have hc2 := c.toNat_lt
  have hm : c.toNat % 128 = c.toNat - 128 := by omega
  have h3 := not_128 c
  rw [hm] at h3
  have h4 : IntKind.u64.wrap ((c.toNat - 128 : Nat) : Int) = ((c.toNat - 128 : Nat) : Int) := wrap_u64 (by omega) (by omega)
  have h5 := shl_at (c := c.toNat - 128) (i := k) (by omega) (by omega) (by omega)
  have h6 := or_at (c := c.toNat - 128) (i := k) hv (by omega) (by omega) (by omega)
  have h7 : ¬ (c.toNat : Int) < 128 := by omega
  have h8 : IntKind.i64.wrap ((k : Int) + 1) = ((k + 1 : Nat) : Int) := by rw [wrapI (by omega) (by omega)]; omega
  have h9 : ¬ (k : Int) = 9 := by omega
  have h10 : ¬ (c.toNat : Int) = 0 := by omega
  have h11 : ¬ IntKind.u64.wrap (7 * IntKind.u64.wrap (k : Int)) < 0 := by
    rw [wrap_u64 (x := (k : Int)) (by omega) (by omega), wrap_u64 (by omega) (by omega)]; omega
  generalize hz : c.toNat - 128 = z at h3 h4 h5 h6 ⊢
  simp only [st69, lp69_0, subC, atC, Tryd.f69, an69, hlt, h2, h3, h4, h5, h6, h7, h8, h11, h9, h10, List.getElem?_map, Int.toNat_natCast, hk, Option.map_some, byteD, T3, T5, T23, T84, T85, T132, EL, e_finWf, e_finWt, e_finMN, e_finMX, retM, meltV, tupV, D.asBox, D.row1, D.freeR, D.freeO, List.replicate_succ, stepD, accs, accP, accW, simpleOp, isAl, isExt, flipD, D.fresh1, D.row, D.plain, D.plain.plainL, St.close, St.close1, St.borrow, retV, resV, resL, outCL, outC, outL, outD, wantedV, opV, An.mid, thawV, St.settle, D.plainU, prune, envOf, get, put, eval, evalT, nz, argsV, capsV, ofV, binV, binV.aggV, unV, intV, eqOp, isConst, natV, optV, loadV, loadC, storeV, setC, St.at_, partV, partTy, indexAddrV, fieldAddrV, sliceV, sliceV.rowSl, sliceV.strSl, bounds, cutP, builtinV, lenV, maxL, maxV, appendV, St.elems, roomy, rowOf, rowS, isStr, esz, tdOf, convV, buildV, fillV, partsV, okParts, fillL, D.whole, D.demoteC, D.demote, demoteL, D.global, D.flat, D.leaf, D.cells, TI.agg, TD.rowish, callOpV, moveL, CC, keepB, St.borrowL, St.borrow, D.isLsl, adoptR, adoptC, adoptCL, adoptL, adopt, List.toArray, Array.toList, Nat.reduceEqDiff, Nat.reduceAdd, Nat.reduceSub, Nat.reduceMul, Nat.reduceLeDiff, Nat.reduceLT, reduceIte, reduceCtorEq, forall_const, imp_self, Int.reduceNeg, Int.reduceLT, Int.reduceLE, Int.reduceGT, Int.reduceGE, Int.reduceAdd, Int.reduceSub, Int.reduceMul, Int.reduceToNat, Int.reduceEq, ne_eq, eq_self]
  exact ⟨_, rfl, rfl⟩

theorem loop69 (C : Callees) (l : List UInt8) (B : Hp) : ∀ (m k v : Nat) (st : St), l.length - k = m → k ≤ l.length → k ≤ 9 → v < 128 ^ k → an69.at_ (some 3) st = st69 l (bvV l .none) v k B →
    ∃ x st', loopC T an69 C lp69_0 st = some (x, st') ∧ ∃ ρ, st' = ⟨ρ, [], [], B⟩ ∧ ((x = .ret ∧ get ρ 2 = .int .u64 (vgetS (l.drop k) k v).1 ∧ get ρ 3 = .int .i64 (vgetS (l.drop k) k v).2.1 ∧ get ρ 4 = errD (vgetS (l.drop k) k v).2.2) ∨ (x = .exit 0 ∧ vgetS (l.drop k) k v = (0, 0, 6))) := by
  intro m
  induction m with
  | zero =>
    intro k v st hm hk h9 hv hst
    obtain rfl : k = l.length := by omega
    obtain ⟨ρ, h⟩ := body69_end C l (bvV l .none) v B
    exact ⟨_, _, loopC_done (by rw [show firstOf lp69_0 = some 3 from rfl, hst]; exact h) (by simp), ρ, rfl, .inr ⟨rfl, by simp [vgetS]⟩⟩
  | succ m ih =>
    intro k v st hm hk h9 hv hst
    have hkn := List.getElem?_eq_getElem (l := l) (i := k) (by omega)
    rw [List.drop_eq_getElem_cons (by omega : k < l.length)]
    generalize l[k] = c at hkn ⊢
    simp only [vgetS]
    by_cases hr : k = 9 ∧ 1 < c.toNat
    · obtain ⟨hk9, hc⟩ := hr
      subst hk9
      obtain ⟨ρ, h, hg⟩ := body69_range C l v B c hkn hc
      refine ⟨_, _, loopC_done (by rw [show firstOf lp69_0 = some 3 from rfl, hst]; exact h) (by simp), ρ, rfl, .inl ⟨rfl, ?_⟩⟩
      rw [if_pos ⟨rfl, hc⟩]; exact hg
    · rw [if_neg hr]
      by_cases hf : c.toNat = 0 ∧ 0 < k
      · obtain ⟨ρ, h, hg⟩ := body69_form C l v k B c hkn hf.1 hf.2
        refine ⟨_, _, loopC_done (by rw [show firstOf lp69_0 = some 3 from rfl, hst]; exact h) (by simp), ρ, rfl, .inl ⟨rfl, ?_⟩⟩
        rw [if_pos hf]; exact hg
      · rw [if_neg hf]
        by_cases hc : c.toNat < 128
        · obtain ⟨ρ, h, hg⟩ := body69_done C l v k B c hkn hr hf hc h9 hv
          refine ⟨_, _, loopC_done (by rw [show firstOf lp69_0 = some 3 from rfl, hst]; exact h) (by simp), ρ, rfl, .inl ⟨rfl, ?_⟩⟩
          rw [if_pos hc]; exact hg
        · rw [if_neg hc]
          have hc2 := c.toNat_lt
          obtain ⟨ρ, h, hg⟩ := body69_next C l v k B c hkn hc (by omega) hv
          have hp : v + (c.toNat - 128) * 128 ^ k < 128 ^ (k + 1) := by
            have : (c.toNat - 128) * 128 ^ k ≤ 127 * 128 ^ k := Nat.mul_le_mul_right _ (by omega)
            rw [Nat.pow_succ]; omega
          obtain ⟨x, st', h4, ρ', h5, h6⟩ := ih (k + 1) _ ⟨ρ, [], [], B⟩ (by omega) (by omega) (by omega) hp hg
          exact ⟨x, st', loopC_next (by rw [show firstOf lp69_0 = some 3 from rfl, hst]; exact h) h4, ρ', h5, h6⟩

def getD3 (l : List UInt8) : D := .tuple [.int .u64 (vgetS l 0 0).1, .int .i64 (vgetS l 0 0).2.1, errD (vgetS l 0 0).2.2]

set_option maxRecDepth 10000 in
theorem run69 (C : Callees) (l : List UInt8) (B : Hp) : runV T C fi69 [bvV l .none] B = some (getD3 l, B) := by
  rw [e_run _ _ _ rfl]
  simp only [fi69, Tryd.f69, an69, T3, T5, T23, T84, T85, T132, EL, e_finWf, e_finWt, e_finMN, e_finMX, retM, meltV, tupV, D.asBox, D.row1, D.freeR, D.freeO, List.replicate_succ, stepD, accs, accP, accW, simpleOp, isAl, isExt, flipD, D.fresh1, D.row, D.plain, D.plain.plainL, St.close, St.close1, St.borrow, retV, resV, resL, outCL, outC, outL, outD, wantedV, opV, An.mid, thawV, St.settle, D.plainU, prune, envOf, get, put, eval, evalT, nz, argsV, capsV, ofV, binV, binV.aggV, unV, intV, eqOp, isConst, natV, optV, loadV, loadC, storeV, setC, St.at_, partV, partTy, indexAddrV, fieldAddrV, sliceV, sliceV.rowSl, sliceV.strSl, bounds, cutP, builtinV, lenV, maxL, maxV, appendV, St.elems, roomy, rowOf, rowS, isStr, esz, tdOf, convV, buildV, fillV, partsV, okParts, fillL, D.whole, D.demoteC, D.demote, demoteL, D.global, D.flat, D.leaf, D.cells, TI.agg, TD.rowish, callOpV, moveL, CC, keepB, St.borrowL, St.borrow, D.isLsl, adoptR, adoptC, adoptCL, adoptL, adopt, List.toArray, Array.toList, Nat.reduceEqDiff, Nat.reduceAdd, Nat.reduceSub, Nat.reduceMul, Nat.reduceLeDiff, Nat.reduceLT, reduceIte, reduceCtorEq, forall_const, imp_self, Int.reduceNeg, Int.reduceLT, Int.reduceLE, Int.reduceGT, Int.reduceGE, Int.reduceAdd, Int.reduceSub, Int.reduceMul, Int.reduceToNat, Int.reduceEq, ne_eq, eq_self]
  refine' in_loop (c' := lp69_0) (fin T _ _ _) ?h2 rfl ?q2
  case h2 => exact loop69 C l B l.length 0 0 _ rfl (by omega) (by omega) (by simp) rfl
  rintro x st' ⟨ρ, rfl, ⟨rfl, hg1, hg2, hg3⟩ | ⟨rfl, hg⟩⟩
  · rw [List.drop_zero] at hg1 hg2 hg3
    simp only [hg1, hg2, hg3, getD3, errD_dem, errD_demC, errD_bor, errD_out, errD_outC, errD_ado, errD_adoC, errD_adoR, errD_plain, errD_close, errD_lsl, errD_fresh, errD_freeO, errD_freeR, errD_glob, implies_true, false_implies, D.vec.injEq, adopt.eq_1, adopt.eq_2, adopt.eq_3, adoptC.eq_1, adoptC.eq_2, adoptR.eq_1, adoptR.eq_2, outD.eq_1, outD.eq_2, outD.eq_3, outC.eq_1, outC.eq_2, D.demote.eq_1, D.demote.eq_2, D.demoteC.eq_1, D.demoteC.eq_2, St.borrow.eq_1, St.borrow.eq_2, D.isLsl.eq_1, D.isLsl.eq_2, D.fresh1.eq_1, D.fresh1.eq_2, D.fresh1.eq_3, St.close.eq_1, St.close.eq_2, T3, T5, T23, T84, T85, T132, EL, e_finWf, e_finWt, e_finMN, e_finMX, retM, meltV, tupV, D.asBox, D.row1, D.freeR, D.freeO, List.replicate_succ, stepD, accs, accP, accW, simpleOp, isAl, isExt, flipD, D.row, D.plain, D.plain.plainL, St.close1, retV, resV, resL, outCL, outL, wantedV, opV, An.mid, thawV, St.settle, D.plainU, prune, envOf, get, put, eval, evalT, nz, argsV, capsV, ofV, binV, binV.aggV, unV, intV, eqOp, isConst, natV, optV, loadV, loadC, storeV, setC, St.at_, partV, partTy, indexAddrV, fieldAddrV, sliceV, sliceV.rowSl, sliceV.strSl, bounds, cutP, builtinV, lenV, maxL, maxV, appendV, St.elems, roomy, rowOf, rowS, isStr, esz, tdOf, convV, buildV, fillV, partsV, okParts, fillL, D.whole, demoteL, D.global, D.flat, D.leaf, D.cells, TI.agg, TD.rowish, callOpV, moveL, CC, keepB, St.borrowL, adoptCL, adoptL, List.toArray, Array.toList, Nat.reduceEqDiff, Nat.reduceAdd, Nat.reduceSub, Nat.reduceMul, Nat.reduceLeDiff, Nat.reduceLT, reduceIte, reduceCtorEq, forall_const, imp_self, Int.reduceNeg, Int.reduceLT, Int.reduceLE, Int.reduceGT, Int.reduceGE, Int.reduceAdd, Int.reduceSub, Int.reduceMul, Int.reduceToNat, Int.reduceEq, ne_eq, eq_self]
  · rw [List.drop_zero] at hg
    simp only [getD3, hg, errD, T3, T5, T23, T84, T85, T132, EL, e_finWf, e_finWt, e_finMN, e_finMX, retM, meltV, tupV, D.asBox, D.row1, D.freeR, D.freeO, List.replicate_succ, stepD, accs, accP, accW, simpleOp, isAl, isExt, flipD, D.fresh1, D.row, D.plain, D.plain.plainL, St.close, St.close1, St.borrow, retV, resV, resL, outCL, outC, outL, outD, wantedV, opV, An.mid, thawV, St.settle, D.plainU, prune, envOf, get, put, eval, evalT, nz, argsV, capsV, ofV, binV, binV.aggV, unV, intV, eqOp, isConst, natV, optV, loadV, loadC, storeV, setC, St.at_, partV, partTy, indexAddrV, fieldAddrV, sliceV, sliceV.rowSl, sliceV.strSl, bounds, cutP, builtinV, lenV, maxL, maxV, appendV, St.elems, roomy, rowOf, rowS, isStr, esz, tdOf, convV, buildV, fillV, partsV, okParts, fillL, D.whole, D.demoteC, D.demote, demoteL, D.global, D.flat, D.leaf, D.cells, TI.agg, TD.rowish, callOpV, moveL, CC, keepB, St.borrowL, St.borrow, D.isLsl, adoptR, adoptC, adoptCL, adoptL, adopt, List.toArray, Array.toList, Nat.reduceEqDiff, Nat.reduceAdd, Nat.reduceSub, Nat.reduceMul, Nat.reduceLeDiff, Nat.reduceLT, reduceIte, reduceCtorEq, forall_const, imp_self, Int.reduceNeg, Int.reduceLT, Int.reduceLE, Int.reduceGT, Int.reduceGE, Int.reduceAdd, Int.reduceSub, Int.reduceMul, Int.reduceToNat, Int.reduceEq, ne_eq, eq_self]
    rfl

theorem c69 (hC : LibVar C) (l : List UInt8) (B : Hp) : C 69 [.vec 1 (l.map byteD) .none] B = some (getD3 l, B) := hC.f69 _ _ _ (run69 C l B)

end Go.Proofs.YtfkhijjabkhmmaaDoor.V
