/-
Layer 17: pages in use: what the program's functions compute.
-/
import Derived.Test.YtnhelkclkdfndaaDoorBA
namespace Go.Proofs.YtnhelkclkdfndaaDoor.V
open Go Go.RowKit
set_option linter.unusedSimpArgs false
set_option linter.unusedVariables false

/-! warren/bitset.may -/
def an85 : An := ⟨fun _ => .none, fun _ => 0, fun _ => false, fun _ => .none⟩
noncomputable def fi85 : FI := ⟨1, 9, Tryd.f85.body.getD .skip, Tryd.f85.results.toList, an85, false, false, false⟩
theorem ok85 : FnOk Tryd.prog 85 fi85 := ⟨⟨Tryd.f85, Tryd.func85, by kernel_rfl, rfl, rfl, rfl⟩, by decide, by kernel_rfl, fun h => by cases h⟩
/-! warren/bitset.bit -/
def an86 : An := ⟨fun _ => .none, fun _ => 0, fun _ => false, fun _ => .none⟩
noncomputable def fi86 : FI := ⟨1, 7, Tryd.f86.body.getD .skip, Tryd.f86.results.toList, an86, false, false, false⟩
theorem ok86 : FnOk Tryd.prog 86 fi86 := ⟨⟨Tryd.f86, Tryd.func86, by kernel_rfl, rfl, rfl, rfl⟩, by decide, by kernel_rfl, fun h => by cases h⟩
/-! warren/bitset.Has -/
def an30 : An := ⟨fun _ => .none, fun _ => 0, fun _ => false, fun _ => .none⟩
noncomputable def fi30 : FI := ⟨2, 17, Tryd.f30.body.getD .skip, Tryd.f30.results.toList, an30, false, false, false⟩
theorem ok30 : FnOk Tryd.prog 30 fi30 := ⟨⟨Tryd.f30, Tryd.func30, by kernel_rfl, rfl, rfl, rfl⟩, by decide, by kernel_rfl, fun h => by cases h⟩
/-! warren/bitset.With -/
def an29 : An := ⟨fun _ => .none, fun _ => 0, fun _ => false, fun _ => .none⟩
noncomputable def fi29 : FI := ⟨2, 16, Tryd.f29.body.getD .skip, Tryd.f29.results.toList, an29, false, false, false⟩
theorem ok29 : FnOk Tryd.prog 29 fi29 := ⟨⟨Tryd.f29, Tryd.func29, by kernel_rfl, rfl, rfl, rfl⟩, by decide, by kernel_rfl, fun h => by cases h⟩
/-! warren/bitset.Either -/
def an25 : An := ⟨fun | 2 => some [2, 3, 4, 6] | _ => .none, fun _ => 0, fun _ => false, fun _ => .none⟩
noncomputable def fi25 : FI := ⟨2, 19, Tryd.f25.body.getD .skip, Tryd.f25.results.toList, an25, false, false, false⟩
theorem ok25 : FnOk Tryd.prog 25 fi25 := ⟨⟨Tryd.f25, Tryd.func25, by kernel_rfl, rfl, rfl, rfl⟩, by decide, by kernel_rfl, fun h => by cases h⟩
noncomputable def lp25_0 : Code := subC [1, 0, 1, 0, 0] (Tryd.f25.body.getD .skip)   -- head 2 keep [2, 3, 4, 6]
/-! warren/bitset.Below -/
def an77 : An := ⟨fun | 4 => some [0, 2, 3, 9] | _ => .none, fun _ => 0, fun _ => false, fun _ => .none⟩
noncomputable def fi77 : FI := ⟨1, 32, Tryd.f77.body.getD .skip, Tryd.f77.results.toList, an77, false, false, false⟩
theorem ok77 : FnOk Tryd.prog 77 fi77 := ⟨⟨Tryd.f77, Tryd.func77, by kernel_rfl, rfl, rfl, rfl⟩, by decide, by kernel_rfl, fun h => by cases h⟩
noncomputable def lp77_0 : Code := subC [1, 1, 1, 0, 1, 0, 0] (Tryd.f77.body.getD .skip)   -- head 4 keep [0, 2, 3, 9]
structure Lib17 (C : Callees) : Prop extends LibInt C where
  f85 : Has T C 85 fi85
  f86 : Has T C 86 fi86
  f30 : Has T C 30 fi30
  f29 : Has T C 29 fi29
  f25 : Has T C 25 fi25
  f77 : Has T C 77 fi77

variable {C : Callees}

theorem nat0 (a : Nat) : (0 : Int) ≤ (a : Int) := Int.natCast_nonneg a
theorem u64_andn {x y : Nat} (hx : x < 18446744073709551616) (hy : y < 18446744073709551616) : bitsV .andNot .u64 (x : Int) (y : Int) = ((andW x y : Nat) : Int) := bits_nat (k := .u64) rfl .andNot x y hx hy
theorem and_pow {x b : Nat} : (((x &&& 2 ^ b : Nat) : Int) = 0) = (x.testBit b = false) := by
  apply propext
  rw [Int.natCast_eq_zero]
  constructor
  · intro h
    have := congrArg (fun n => n.testBit b) h
    simpa [Nat.testBit_and, pow_bit] using this
  · intro h
    apply Nat.eq_of_testBit_eq
    intro i
    rw [Nat.testBit_and, pow_bit, Nat.zero_testBit]
    by_cases e : b = i
    · subst e; rw [h]; rfl
    · simp [e]

/-- Can it be in a set? -/
def mayN (a : Int) : Bool := decide (0 ≤ a) && decide (a < 1024)
theorem mayN_t {a : Int} (h : mayN a = true) : ∃ n : Nat, a = n ∧ n < 1024 := by
  simp only [mayN, Bool.and_eq_true, decide_eq_true_eq] at h
  exact ⟨a.toNat, by omega, by omega⟩
theorem mayN_n {n : Nat} (h : n < 1024) : mayN (n : Int) = true := by
  simp only [mayN, Bool.and_eq_true, decide_eq_true_eq]; omega

set_option maxRecDepth 10000 in
theorem run85 (C : Callees) (a : Int) (B : Hp) : runV T C fi85 [.int .i64 a] B = some (.bool (mayN a), B) := by
  rw [e_run _ _ _ rfl]
  unfold mayN
  by_cases h1 : 0 ≤ a
  · have g1 : a ≥ 0 := h1
    by_cases h2 : a < 1024
    · simp only [fi85, Tryd.f85, an85, g1, h1, h2, T3, EL, e_finWf, e_finWt, e_finMN, e_finMX, retM, meltV, tupV, D.asBox, D.row1, D.freeR, D.freeO, List.replicate_succ, stepD, accs, accP, accW, simpleOp, isAl, isExt, flipD, D.fresh1, D.row, D.plain, D.plain.plainL, St.close, St.close1, St.borrow, retV, resV, resL, outCL, outC, outL, outD, wantedV, opV, An.mid, thawV, St.settle, D.plainU, prune, envOf, get, put, eval, evalT, nz, argsV, capsV, ofV, binV, binV.aggV, unV, intV, eqOp, isConst, natV, optV, loadV, loadC, storeV, setC, St.at_, partV, partTy, indexAddrV, fieldAddrV, sliceV, sliceV.rowSl, sliceV.strSl, bounds, cutP, builtinV, lenV, maxL, maxV, appendV, St.elems, roomy, rowOf, rowS, isStr, esz, tdOf, convV, buildV, fillV, partsV, okParts, fillL, D.whole, D.demoteC, D.demote, demoteL, D.global, D.flat, D.leaf, D.cells, TI.agg, TD.rowish, callOpV, moveL, CC, keepB, St.borrowL, St.borrow, D.isLsl, adoptR, adoptC, adoptCL, adoptL, adopt, List.toArray, Array.toList, Nat.reduceEqDiff, Nat.reduceAdd, Nat.reduceSub, Nat.reduceMul, Nat.reduceLeDiff, Nat.reduceLT, reduceIte, reduceCtorEq, forall_const, imp_self, Int.reduceNeg, Int.reduceLT, Int.reduceLE, Int.reduceGT, Int.reduceGE, Int.reduceAdd, Int.reduceSub, Int.reduceMul, Int.reduceToNat, Int.reduceEq, ne_eq, eq_self]
    · simp only [fi85, Tryd.f85, an85, g1, h1, h2, T3, EL, e_finWf, e_finWt, e_finMN, e_finMX, retM, meltV, tupV, D.asBox, D.row1, D.freeR, D.freeO, List.replicate_succ, stepD, accs, accP, accW, simpleOp, isAl, isExt, flipD, D.fresh1, D.row, D.plain, D.plain.plainL, St.close, St.close1, St.borrow, retV, resV, resL, outCL, outC, outL, outD, wantedV, opV, An.mid, thawV, St.settle, D.plainU, prune, envOf, get, put, eval, evalT, nz, argsV, capsV, ofV, binV, binV.aggV, unV, intV, eqOp, isConst, natV, optV, loadV, loadC, storeV, setC, St.at_, partV, partTy, indexAddrV, fieldAddrV, sliceV, sliceV.rowSl, sliceV.strSl, bounds, cutP, builtinV, lenV, maxL, maxV, appendV, St.elems, roomy, rowOf, rowS, isStr, esz, tdOf, convV, buildV, fillV, partsV, okParts, fillL, D.whole, D.demoteC, D.demote, demoteL, D.global, D.flat, D.leaf, D.cells, TI.agg, TD.rowish, callOpV, moveL, CC, keepB, St.borrowL, St.borrow, D.isLsl, adoptR, adoptC, adoptCL, adoptL, adopt, List.toArray, Array.toList, Nat.reduceEqDiff, Nat.reduceAdd, Nat.reduceSub, Nat.reduceMul, Nat.reduceLeDiff, Nat.reduceLT, reduceIte, reduceCtorEq, forall_const, imp_self, Int.reduceNeg, Int.reduceLT, Int.reduceLE, Int.reduceGT, Int.reduceGE, Int.reduceAdd, Int.reduceSub, Int.reduceMul, Int.reduceToNat, Int.reduceEq, ne_eq, eq_self]
  · have g1 : ¬ a ≥ 0 := h1
    simp only [fi85, Tryd.f85, an85, g1, h1, T3, EL, e_finWf, e_finWt, e_finMN, e_finMX, retM, meltV, tupV, D.asBox, D.row1, D.freeR, D.freeO, List.replicate_succ, stepD, accs, accP, accW, simpleOp, isAl, isExt, flipD, D.fresh1, D.row, D.plain, D.plain.plainL, St.close, St.close1, St.borrow, retV, resV, resL, outCL, outC, outL, outD, wantedV, opV, An.mid, thawV, St.settle, D.plainU, prune, envOf, get, put, eval, evalT, nz, argsV, capsV, ofV, binV, binV.aggV, unV, intV, eqOp, isConst, natV, optV, loadV, loadC, storeV, setC, St.at_, partV, partTy, indexAddrV, fieldAddrV, sliceV, sliceV.rowSl, sliceV.strSl, bounds, cutP, builtinV, lenV, maxL, maxV, appendV, St.elems, roomy, rowOf, rowS, isStr, esz, tdOf, convV, buildV, fillV, partsV, okParts, fillL, D.whole, D.demoteC, D.demote, demoteL, D.global, D.flat, D.leaf, D.cells, TI.agg, TD.rowish, callOpV, moveL, CC, keepB, St.borrowL, St.borrow, D.isLsl, adoptR, adoptC, adoptCL, adoptL, adopt, List.toArray, Array.toList, Nat.reduceEqDiff, Nat.reduceAdd, Nat.reduceSub, Nat.reduceMul, Nat.reduceLeDiff, Nat.reduceLT, reduceIte, reduceCtorEq, forall_const, imp_self, Int.reduceNeg, Int.reduceLT, Int.reduceLE, Int.reduceGT, Int.reduceGE, Int.reduceAdd, Int.reduceSub, Int.reduceMul, Int.reduceToNat, Int.reduceEq, ne_eq, eq_self]
theorem c85 (hC : Lib17 C) (a : Int) (B : Hp) : C 85 [.int .i64 a] B = some (.bool (mayN a), B) := hC.f85 _ _ _ (run85 C a B)

set_option maxRecDepth 10000 in
theorem run86 (C : Callees) (b : Nat) (h : b < 1024) (B : Hp) : runV T C fi86 [.int .i64 b] B = some (.int .u64 (2 ^ (b % 64) : Nat), B) := by
  rw [e_run _ _ _ rfl]
  have g1 : IntKind.u64.wrap (b : Int) = b := wrap_u64 (by omega) (by omega)
  have g2 : bitsV .and .u64 (b : Int) 63 = ((b % 64 : Nat) : Int) := by
    have := u64_and b 63 (by omega) (by decide)
    rw [show b &&& 63 = b % 64 from Nat.and_two_pow_sub_one_eq_mod b 6] at this
    exact this
  have g3 : ¬ ((b % 64 : Nat) : Int) < 0 := by omega
  have g4 := shl_one (b := b % 64) (by omega)
  simp only [fi86, Tryd.f86, an86, g1, g2, g3, g4, T3, T22, T87, EL, e_finWf, e_finWt, e_finMN, e_finMX, retM, meltV, tupV, D.asBox, D.row1, D.freeR, D.freeO, List.replicate_succ, stepD, accs, accP, accW, simpleOp, isAl, isExt, flipD, D.fresh1, D.row, D.plain, D.plain.plainL, St.close, St.close1, St.borrow, retV, resV, resL, outCL, outC, outL, outD, wantedV, opV, An.mid, thawV, St.settle, D.plainU, prune, envOf, get, put, eval, evalT, nz, argsV, capsV, ofV, binV, binV.aggV, unV, intV, eqOp, isConst, natV, optV, loadV, loadC, storeV, setC, St.at_, partV, partTy, indexAddrV, fieldAddrV, sliceV, sliceV.rowSl, sliceV.strSl, bounds, cutP, builtinV, lenV, maxL, maxV, appendV, St.elems, roomy, rowOf, rowS, isStr, esz, tdOf, convV, buildV, fillV, partsV, okParts, fillL, D.whole, D.demoteC, D.demote, demoteL, D.global, D.flat, D.leaf, D.cells, TI.agg, TD.rowish, callOpV, moveL, CC, keepB, St.borrowL, St.borrow, D.isLsl, adoptR, adoptC, adoptCL, adoptL, adopt, List.toArray, Array.toList, Nat.reduceEqDiff, Nat.reduceAdd, Nat.reduceSub, Nat.reduceMul, Nat.reduceLeDiff, Nat.reduceLT, reduceIte, reduceCtorEq, forall_const, imp_self, Int.reduceNeg, Int.reduceLT, Int.reduceLE, Int.reduceGT, Int.reduceGE, Int.reduceAdd, Int.reduceSub, Int.reduceMul, Int.reduceToNat, Int.reduceEq, ne_eq, eq_self]
theorem c86 (hC : Lib17 C) (b : Nat) (h : b < 1024) (B : Hp) : C 86 [.int .i64 b] B = some (.int .u64 (2 ^ (b % 64) : Nat), B) := hC.f86 _ _ _ (run86 C b h B)

abbrev sD (s : Nat → Nat) : D := .agg (nums .u64 16 s)
theorem shr6 (n : Nat) : shrV .i64 (n : Int) 6 = ((n / 64 : Nat) : Int) := shr_nat .i64 n 6 (by decide)

def hasS (s : Nat → Nat) (a : Int) : Bool := mayN a && mem s a.toNat
set_option maxRecDepth 10000 in
theorem run30 (hC : Lib17 C) {s : Nat → Nat} (hs : Wds s) (a : Int) (B : Hp) : runV T C fi30 [sD s, .int .i64 a] B = some (.bool (hasS s a), B) := by
  rw [e_run _ _ _ rfl]
  unfold hasS
  have c1 := c85 hC a
  cases e1 : mayN a <;> rw [e1] at c1
  · simp only [fi30, Tryd.f30, an30, c1, AL, T3, T22, T42, EL, e_finWf, e_finWt, e_finMN, e_finMX, retM, meltV, tupV, D.asBox, D.row1, D.freeR, D.freeO, List.replicate_succ, stepD, accs, accP, accW, simpleOp, isAl, isExt, flipD, D.fresh1, D.row, D.plain, D.plain.plainL, St.close, St.close1, St.borrow, retV, resV, resL, outCL, outC, outL, outD, wantedV, opV, An.mid, thawV, St.settle, D.plainU, prune, envOf, get, put, eval, evalT, nz, argsV, capsV, ofV, binV, binV.aggV, unV, intV, eqOp, isConst, natV, optV, loadV, loadC, storeV, setC, St.at_, partV, partTy, indexAddrV, fieldAddrV, sliceV, sliceV.rowSl, sliceV.strSl, bounds, cutP, builtinV, lenV, maxL, maxV, appendV, St.elems, roomy, rowOf, rowS, isStr, esz, tdOf, convV, buildV, fillV, partsV, okParts, fillL, D.whole, D.demoteC, D.demote, demoteL, D.global, D.flat, D.leaf, D.cells, TI.agg, TD.rowish, callOpV, moveL, CC, keepB, St.borrowL, St.borrow, D.isLsl, adoptR, adoptC, adoptCL, adoptL, adopt, List.toArray, Array.toList, Nat.reduceEqDiff, Nat.reduceAdd, Nat.reduceSub, Nat.reduceMul, Nat.reduceLeDiff, Nat.reduceLT, reduceIte, reduceCtorEq, forall_const, imp_self, Int.reduceNeg, Int.reduceLT, Int.reduceLE, Int.reduceGT, Int.reduceGE, Int.reduceAdd, Int.reduceSub, Int.reduceMul, Int.reduceToNat, Int.reduceEq, ne_eq, eq_self]
  · obtain ⟨n, rfl, hn⟩ := mayN_t e1
    have c2 := c86 hC n hn
    have n2 := nat0 (n / 64)
    have g1 := shr6 n
    have h16 : n / 64 < 16 := by omega
    have g2 := nums_get (k := .u64) (m := s) h16
    have b1 := u64_and (s (n / 64)) (2 ^ (n % 64)) (hs _ h16) (pow64 (Nat.mod_lt _ (by decide)))
    have z1 := and_pow (x := s (n / 64)) (b := n % 64)
    unfold mem
    cases e2 : (s (n / 64)).testBit (n % 64) <;> rw [e2] at z1 <;>
    simp only [fi30, Tryd.f30, an30, c1, c2, n2, g1, h16, g2, b1, z1, e2, AL, T3, T22, T42, EL, e_finWf, e_finWt, e_finMN, e_finMX, retM, meltV, tupV, D.asBox, D.row1, D.freeR, D.freeO, List.replicate_succ, stepD, accs, accP, accW, simpleOp, isAl, isExt, flipD, D.fresh1, D.row, D.plain, D.plain.plainL, St.close, St.close1, St.borrow, retV, resV, resL, outCL, outC, outL, outD, wantedV, opV, An.mid, thawV, St.settle, D.plainU, prune, envOf, get, put, eval, evalT, nz, argsV, capsV, ofV, binV, binV.aggV, unV, intV, eqOp, isConst, natV, optV, loadV, loadC, storeV, setC, St.at_, partV, partTy, indexAddrV, fieldAddrV, sliceV, sliceV.rowSl, sliceV.strSl, bounds, cutP, builtinV, lenV, maxL, maxV, appendV, St.elems, roomy, rowOf, rowS, isStr, esz, tdOf, convV, buildV, fillV, partsV, okParts, fillL, D.whole, D.demoteC, D.demote, demoteL, D.global, D.flat, D.leaf, D.cells, TI.agg, TD.rowish, callOpV, moveL, CC, keepB, St.borrowL, St.borrow, D.isLsl, adoptR, adoptC, adoptCL, adoptL, adopt, List.toArray, Array.toList, Nat.reduceEqDiff, Nat.reduceAdd, Nat.reduceSub, Nat.reduceMul, Nat.reduceLeDiff, Nat.reduceLT, reduceIte, reduceCtorEq, forall_const, imp_self, Int.reduceNeg, Int.reduceLT, Int.reduceLE, Int.reduceGT, Int.reduceGE, Int.reduceAdd, Int.reduceSub, Int.reduceMul, Int.reduceToNat, Int.reduceEq, ne_eq, eq_self]
theorem c30 (hC : Lib17 C) {s : Nat → Nat} (hs : Wds s) (a : Int) (B : Hp) : C 30 [.agg (nums .u64 16 s), .int .i64 a] B = some (.bool (hasS s a), B) := hC.f30 _ _ _ (run30 hC hs a B)

/-! ### With, without -/
def withN (s : Nat → Nat) (a : Int) : Nat → Nat := if mayN a = true then withS s a.toNat else s
def woutN (s : Nat → Nat) (a : Int) : Nat → Nat := if mayN a = true then woutS s a.toNat else s

set_option maxRecDepth 10000 in
theorem run29 (hC : Lib17 C) {s : Nat → Nat} (hs : Wds s) (a : Int) (B : Hp) : runV T C fi29 [sD s, .int .i64 a] B = some (sD (withN s a), B) := by
  rw [e_run _ _ _ rfl]
  unfold withN
  have c1 := c85 hC a
  cases e1 : mayN a <;> rw [e1] at c1
  · simp only [fi29, Tryd.f29, an29, c1, AL, T3, T22, T42, EL, e_finWf, e_finWt, e_finMN, e_finMX, retM, meltV, tupV, D.asBox, D.row1, D.freeR, D.freeO, List.replicate_succ, stepD, accs, accP, accW, simpleOp, isAl, isExt, flipD, D.fresh1, D.row, D.plain, D.plain.plainL, St.close, St.close1, St.borrow, retV, resV, resL, outCL, outC, outL, outD, wantedV, opV, An.mid, thawV, St.settle, D.plainU, prune, envOf, get, put, eval, evalT, nz, argsV, capsV, ofV, binV, binV.aggV, unV, intV, eqOp, isConst, natV, optV, loadV, loadC, storeV, St.at_, partV, partTy, indexAddrV, fieldAddrV, sliceV, sliceV.rowSl, sliceV.strSl, bounds, cutP, builtinV, lenV, maxL, maxV, appendV, St.elems, roomy, rowOf, rowS, isStr, esz, tdOf, convV, buildV, fillV, partsV, okParts, fillL, D.whole, D.demoteC, D.demote, demoteL, D.global, D.flat, D.leaf, D.cells, TI.agg, TD.rowish, callOpV, moveL, CC, keepB, St.borrowL, St.borrow, D.isLsl, adoptR, adoptC, adoptCL, adoptL, adopt, List.toArray, Array.toList, Nat.reduceEqDiff, Nat.reduceAdd, Nat.reduceSub, Nat.reduceMul, Nat.reduceLeDiff, Nat.reduceLT, reduceIte, reduceCtorEq, forall_const, imp_self, Int.reduceNeg, Int.reduceLT, Int.reduceLE, Int.reduceGT, Int.reduceGE, Int.reduceAdd, Int.reduceSub, Int.reduceMul, Int.reduceToNat, Int.reduceEq, ne_eq, eq_self]
  · obtain ⟨n, rfl, hn⟩ := mayN_t e1
    have c2 := c86 hC n hn
    have n2 := nat0 (n / 64)
    have g1 := shr6 n
    have h16 : n / 64 < 16 := by omega
    have g2 := nums_get (k := .u64) (m := s) h16
    have b1 := u64_or (s (n / 64)) (2 ^ (n % 64)) (hs _ h16) (pow64 (Nat.mod_lt _ (by decide)))
    have s1 := nums_set (k := .u64) (m := s) (x := s (n / 64) ||| 2 ^ (n % 64)) h16
    simp only [fi29, Tryd.f29, an29, c1, c2, n2, g1, h16, g2, b1, s1, AL, T3, T22, T42, EL, e_finWf, e_finWt, e_finMN, e_finMX, retM, meltV, tupV, D.asBox, D.row1, D.freeR, D.freeO, List.replicate_succ, stepD, accs, accP, accW, simpleOp, isAl, isExt, flipD, D.fresh1, D.row, D.plain, D.plain.plainL, St.close, St.close1, St.borrow, retV, resV, resL, outCL, outC, outL, outD, wantedV, opV, An.mid, thawV, St.settle, D.plainU, prune, envOf, get, put, eval, evalT, nz, argsV, capsV, ofV, binV, binV.aggV, unV, intV, eqOp, isConst, natV, optV, loadV, loadC, storeV, St.at_, partV, partTy, indexAddrV, fieldAddrV, sliceV, sliceV.rowSl, sliceV.strSl, bounds, cutP, builtinV, lenV, maxL, maxV, appendV, St.elems, roomy, rowOf, rowS, isStr, esz, tdOf, convV, buildV, fillV, partsV, okParts, fillL, D.whole, D.demoteC, D.demote, demoteL, D.global, D.flat, D.leaf, D.cells, TI.agg, TD.rowish, callOpV, moveL, CC, keepB, St.borrowL, St.borrow, D.isLsl, adoptR, adoptC, adoptCL, adoptL, adopt, List.toArray, Array.toList, Nat.reduceEqDiff, Nat.reduceAdd, Nat.reduceSub, Nat.reduceMul, Nat.reduceLeDiff, Nat.reduceLT, reduceIte, reduceCtorEq, forall_const, imp_self, Int.reduceNeg, Int.reduceLT, Int.reduceLE, Int.reduceGT, Int.reduceGE, Int.reduceAdd, Int.reduceSub, Int.reduceMul, Int.reduceToNat, Int.reduceEq, ne_eq, eq_self]
    rfl
theorem c29 (hC : Lib17 C) {s : Nat → Nat} (hs : Wds s) (a : Int) (B : Hp) : C 29 [.agg (nums .u64 16 s), .int .i64 a] B = some (.agg (nums .u64 16 (withN s a)), B) := hC.f29 _ _ _ (run29 hC hs a B)

/-! ### Count -/
theorem cntW_le (s : Nat → Nat) (hs : Wds s) : ∀ i, i ≤ 16 → cntW s i ≤ i * 64 := fun i hi => by rw [cntW_eq hs i hi]; exact cntB_le _ _
theorem ones_64 {v : Nat} (h : v < 18446744073709551616) : onesN v ≤ 64 := by rw [ones_cnt 64 v h]; exact cntB_le _ _
/-! ### Word by word -/
/-- So far. -/
def upto (f s : Nat → Nat) (k : Nat) : Nat → Nat := fun i => if i < k then f i else s i
theorem upto_step {f s : Nat → Nat} {k : Nat} : updA (upto f s k) k (f k) = upto f s (k + 1) := by
  funext i
  unfold updA upto
  by_cases e : i = k
  · subst e; rw [if_pos rfl, if_pos (by omega)]
  · rw [if_neg e]
    by_cases e2 : i < k
    · rw [if_pos e2, if_pos (by omega)]
    · rw [if_neg e2, if_neg (by omega)]
theorem upto_at {f s : Nat → Nat} {k : Nat} : upto f s k k = s k := by unfold upto; rw [if_neg (by omega)]
theorem upto_0 {f s : Nat → Nat} : upto f s 0 = s := by funext i; unfold upto; rw [if_neg (by omega)]
theorem upto_16 {f s : Nat → Nat} : nums .u64 16 (upto f s 16) = nums .u64 16 f := nums_ext fun i hi => by unfold upto; rw [if_pos hi]
abbrev noS : Nat → Nat := fun _ => 0

def st25 (B : Hp) (s t : Nat → Nat) (k : Nat) : St := ⟨[(2, .lptr 0 0), (3, .lptr 1 0), (4, .lptr 2 0), (6, .int .i64 k)], [some (nums .u64 16 (upto (eithS s t) s k)), some (nums .u64 16 t), some (nums .u64 16 noS)], [], B⟩
set_option maxRecDepth 10000 in
theorem loop25 (C : Callees) (B : Hp) {s t : Nat → Nat} (hs : Wds s) (ht : Wds t) (st : St) (hst : an25.at_ (some 2) st = st25 B s t 0) :
    ∃ x st', loopC T an25 C lp25_0 st = some (x, st') ∧ x = .exit 0 ∧ ∃ ρ, st' = ⟨ρ, [some (nums .u64 16 (eithS s t)), some (nums .u64 16 t), some (nums .u64 16 noS)], [], B⟩ ∧ get ρ 2 = .lptr 0 0 ∧ get ρ 4 = .lptr 2 0 := by
  refine loop_rule (st25 B s t) (fun k => k ≤ 16) (fun k => 16 - k) _ ?_ 0 st hst (by omega)
  intro k hk
  rcases Nat.lt_or_ge k 16 with h | h
  · left
    refine ⟨k + 1, ?_, by omega, by omega⟩
    have g0 : (k : Int) < 16 := by omega
    have w1 : IntKind.i64.wrap ((k : Int) + 1) = ((k + 1 : Nat) : Int) := by rw [wrapI (by omega) (by omega)]; rfl
    have n1 := nat0 k
    have g1 := nums_get (k := .u64) (m := upto (eithS s t) s k) h
    rw [upto_at] at g1
    have g2 := nums_get (k := .u64) (m := t) h
    have b1 : bitsV .or .u64 ((s k : Nat) : Int) ((t k : Nat) : Int) = ((eithS s t k : Nat) : Int) := u64_or (s k) (t k) (hs k h) (ht k h)
    have s1 := nums_set (k := .u64) (m := upto (eithS s t) s k) (x := eithS s t k) h
    rw [upto_step] at s1
    simp only [st25, lp25_0, subC, atC, Tryd.f25, an25, g0, w1, n1, h, g1, g2, b1, s1, AL, T3, T22, T42, EL, e_finWf, e_finWt, e_finMN, e_finMX, retM, meltV, tupV, D.asBox, D.row1, D.freeR, D.freeO, List.replicate_succ, stepD, accs, accP, accW, simpleOp, isAl, isExt, flipD, D.fresh1, D.row, D.plain, D.plain.plainL, St.close, St.close1, St.borrow, retV, resV, resL, outCL, outC, outL, outD, wantedV, opV, An.mid, thawV, St.settle, D.plainU, prune, envOf, get, put, eval, evalT, nz, argsV, capsV, ofV, binV, binV.aggV, unV, intV, eqOp, isConst, natV, optV, loadV, loadC, storeV, St.at_, partV, partTy, indexAddrV, fieldAddrV, sliceV, sliceV.rowSl, sliceV.strSl, bounds, cutP, builtinV, lenV, maxL, maxV, appendV, St.elems, roomy, rowOf, rowS, isStr, esz, tdOf, convV, buildV, fillV, partsV, okParts, fillL, D.whole, D.demoteC, D.demote, demoteL, D.global, D.flat, D.leaf, D.cells, TI.agg, TD.rowish, callOpV, moveL, CC, keepB, St.borrowL, St.borrow, D.isLsl, adoptR, adoptC, adoptCL, adoptL, adopt, List.toArray, Array.toList, Nat.reduceEqDiff, Nat.reduceAdd, Nat.reduceSub, Nat.reduceMul, Nat.reduceLeDiff, Nat.reduceLT, reduceIte, reduceCtorEq, forall_const, imp_self, Int.reduceNeg, Int.reduceLT, Int.reduceLE, Int.reduceGT, Int.reduceGE, Int.reduceAdd, Int.reduceSub, Int.reduceMul, Int.reduceToNat, Int.reduceEq, ne_eq, eq_self]
    exact ⟨_, rfl, rfl⟩
  · right
    obtain rfl : k = 16 := by omega
    have g0 : ¬ ((16 : Nat) : Int) < 16 := by omega
    have e := upto_16 (f := eithS s t) (s := s)
    simp only [st25, lp25_0, subC, atC, Tryd.f25, an25, g0, e, T3, T22, T42, EL, e_finWf, e_finWt, e_finMN, e_finMX, retM, meltV, tupV, D.asBox, D.row1, D.freeR, D.freeO, List.replicate_succ, stepD, accs, accP, accW, simpleOp, isAl, isExt, flipD, D.fresh1, D.row, D.plain, D.plain.plainL, St.close, St.close1, St.borrow, retV, resV, resL, outCL, outC, outL, outD, wantedV, opV, An.mid, thawV, St.settle, D.plainU, prune, envOf, get, put, eval, evalT, nz, argsV, capsV, ofV, binV, binV.aggV, unV, intV, eqOp, isConst, natV, optV, loadV, loadC, storeV, setC, St.at_, partV, partTy, indexAddrV, fieldAddrV, sliceV, sliceV.rowSl, sliceV.strSl, bounds, cutP, builtinV, lenV, maxL, maxV, appendV, St.elems, roomy, rowOf, rowS, isStr, esz, tdOf, convV, buildV, fillV, partsV, okParts, fillL, D.whole, D.demoteC, D.demote, demoteL, D.global, D.flat, D.leaf, D.cells, TI.agg, TD.rowish, callOpV, moveL, CC, keepB, St.borrowL, St.borrow, D.isLsl, adoptR, adoptC, adoptCL, adoptL, adopt, List.toArray, Array.toList, Nat.reduceEqDiff, Nat.reduceAdd, Nat.reduceSub, Nat.reduceMul, Nat.reduceLeDiff, Nat.reduceLT, reduceIte, reduceCtorEq, forall_const, imp_self, Int.reduceNeg, Int.reduceLT, Int.reduceLE, Int.reduceGT, Int.reduceGE, Int.reduceAdd, Int.reduceSub, Int.reduceMul, Int.reduceToNat, Int.reduceEq, ne_eq, eq_self]
    exact ⟨_, _, rfl, by simp, rfl, _, rfl, rfl, rfl⟩
set_option maxRecDepth 10000 in
theorem run25 (C : Callees) {s t : Nat → Nat} (hs : Wds s) (ht : Wds t) (B : Hp) : runV T C fi25 [sD s, sD t] B = some (sD (eithS s t), B) := by
  rw [e_run _ _ _ rfl]
  simp only [fi25, Tryd.f25, an25, AL, T3, T22, T42, EL, e_finWf, e_finWt, e_finMN, e_finMX, retM, meltV, tupV, D.asBox, D.row1, D.freeR, D.freeO, List.replicate_succ, stepD, accs, accP, accW, simpleOp, isAl, isExt, flipD, D.fresh1, D.row, D.plain, D.plain.plainL, St.close, St.close1, St.borrow, retV, resV, resL, outCL, outC, outL, outD, wantedV, opV, An.mid, thawV, St.settle, D.plainU, prune, envOf, get, put, eval, evalT, nz, argsV, capsV, ofV, binV, binV.aggV, unV, intV, eqOp, isConst, natV, optV, loadV, loadC, storeV, St.at_, partV, partTy, indexAddrV, fieldAddrV, sliceV, sliceV.rowSl, sliceV.strSl, bounds, cutP, builtinV, lenV, maxL, maxV, appendV, St.elems, roomy, rowOf, rowS, isStr, esz, tdOf, convV, buildV, fillV, partsV, okParts, fillL, D.whole, D.demoteC, D.demote, demoteL, D.global, D.flat, D.leaf, D.cells, TI.agg, TD.rowish, callOpV, moveL, CC, keepB, St.borrowL, St.borrow, D.isLsl, adoptR, adoptC, adoptCL, adoptL, adopt, List.toArray, Array.toList, Nat.reduceEqDiff, Nat.reduceAdd, Nat.reduceSub, Nat.reduceMul, Nat.reduceLeDiff, Nat.reduceLT, reduceIte, reduceCtorEq, forall_const, imp_self, Int.reduceNeg, Int.reduceLT, Int.reduceLE, Int.reduceGT, Int.reduceGE, Int.reduceAdd, Int.reduceSub, Int.reduceMul, Int.reduceToNat, Int.reduceEq, ne_eq, eq_self]
  refine' in_loop (c' := lp25_0) (fin T _ _ _) ?h rfl ?q
  case h =>
    refine loop25 C B hs ht _ ?_
    simp only [an25, ren_map, toks_map, boxes_map, st25, upto_0, AL, An.at_, tidyV, tidyW, tidyB, tidyT, sift, envBoxes, envToks, conToks, D.toks, D.tok1, toksL, D.boxes, D.box1, boxesL, memN, posN, renE, D.ren, D.ren1, renL, renB, St.content, St.boxOk, St.tokOk, trues, T3, T22, T42, EL, e_finWf, e_finWt, e_finMN, e_finMX, retM, meltV, tupV, D.asBox, D.row1, D.freeR, D.freeO, List.replicate_succ, stepD, accs, accP, accW, simpleOp, isAl, isExt, flipD, D.fresh1, D.row, D.plain, D.plain.plainL, St.close, St.close1, St.borrow, retV, resV, resL, outCL, outC, outL, outD, wantedV, opV, An.mid, thawV, St.settle, D.plainU, prune, envOf, get, put, eval, evalT, nz, argsV, capsV, ofV, binV, binV.aggV, unV, intV, eqOp, isConst, natV, optV, loadV, loadC, storeV, setC, St.at_, partV, partTy, indexAddrV, fieldAddrV, sliceV, sliceV.rowSl, sliceV.strSl, bounds, cutP, builtinV, lenV, maxL, maxV, appendV, St.elems, roomy, rowOf, rowS, isStr, esz, tdOf, convV, buildV, fillV, partsV, okParts, fillL, D.whole, D.demoteC, D.demote, demoteL, D.global, D.flat, D.leaf, D.cells, TI.agg, TD.rowish, callOpV, moveL, CC, keepB, St.borrowL, St.borrow, D.isLsl, adoptR, adoptC, adoptCL, adoptL, adopt, List.toArray, Array.toList, Nat.reduceEqDiff, Nat.reduceAdd, Nat.reduceSub, Nat.reduceMul, Nat.reduceLeDiff, Nat.reduceLT, reduceIte, reduceCtorEq, forall_const, imp_self, Int.reduceNeg, Int.reduceLT, Int.reduceLE, Int.reduceGT, Int.reduceGE, Int.reduceAdd, Int.reduceSub, Int.reduceMul, Int.reduceToNat, Int.reduceEq, ne_eq, eq_self]
    rfl
  rintro x st' ⟨rfl, ρ, rfl, h1, h2⟩
  simp only [h1, h2, AL, T3, T22, T42, EL, e_finWf, e_finWt, e_finMN, e_finMX, retM, meltV, tupV, D.asBox, D.row1, D.freeR, D.freeO, List.replicate_succ, stepD, accs, accP, accW, simpleOp, isAl, isExt, flipD, D.fresh1, D.row, D.plain, D.plain.plainL, St.close, St.close1, St.borrow, retV, resV, resL, outCL, outC, outL, outD, wantedV, opV, An.mid, thawV, St.settle, D.plainU, prune, envOf, get, put, eval, evalT, nz, argsV, capsV, ofV, binV, binV.aggV, unV, intV, eqOp, isConst, natV, optV, loadV, loadC, storeV, St.at_, partV, partTy, indexAddrV, fieldAddrV, sliceV, sliceV.rowSl, sliceV.strSl, bounds, cutP, builtinV, lenV, maxL, maxV, appendV, St.elems, roomy, rowOf, rowS, isStr, esz, tdOf, convV, buildV, fillV, partsV, okParts, fillL, D.whole, D.demoteC, D.demote, demoteL, D.global, D.flat, D.leaf, D.cells, TI.agg, TD.rowish, callOpV, moveL, CC, keepB, St.borrowL, St.borrow, D.isLsl, adoptR, adoptC, adoptCL, adoptL, adopt, List.toArray, Array.toList, Nat.reduceEqDiff, Nat.reduceAdd, Nat.reduceSub, Nat.reduceMul, Nat.reduceLeDiff, Nat.reduceLT, reduceIte, reduceCtorEq, forall_const, imp_self, Int.reduceNeg, Int.reduceLT, Int.reduceLE, Int.reduceGT, Int.reduceGE, Int.reduceAdd, Int.reduceSub, Int.reduceMul, Int.reduceToNat, Int.reduceEq, ne_eq, eq_self]
theorem c25 (hC : Lib17 C) {s t : Nat → Nat} (hs : Wds s) (ht : Wds t) (B : Hp) : C 25 [.agg (nums .u64 16 s), .agg (nums .u64 16 t)] B = some (.agg (nums .u64 16 (eithS s t)), B) := hC.f25 _ _ _ (run25 C hs ht B)

end Go.Proofs.YtnhelkclkdfndaaDoor.V
