/-
Layer 17: pages in use: what the program's functions compute.
-/
import Derived.Test.YtbbbhalmlboapaaDoorBA
namespace Go.Proofs.YtbbbhalmlboapaaDoor.V
open Go Go.RowKit
set_option linter.unusedSimpArgs false
set_option linter.unusedVariables false

/-! warren/bitset.may -/
def an71 : An := ⟨fun _ => .none, fun _ => 0, fun _ => false, fun _ => .none⟩
noncomputable def fi71 : FI := ⟨1, 9, Tryd.f71.body.getD .skip, Tryd.f71.results.toList, an71, false, false⟩
theorem ok71 : FnOk Tryd.prog 71 fi71 := ⟨⟨Tryd.f71, Tryd.func71, by kernel_rfl, rfl, rfl, rfl⟩, by decide, by kernel_rfl, fun h => by cases h⟩
/-! warren/bitset.bit -/
def an72 : An := ⟨fun _ => .none, fun _ => 0, fun _ => false, fun _ => .none⟩
noncomputable def fi72 : FI := ⟨1, 7, Tryd.f72.body.getD .skip, Tryd.f72.results.toList, an72, false, false⟩
theorem ok72 : FnOk Tryd.prog 72 fi72 := ⟨⟨Tryd.f72, Tryd.func72, by kernel_rfl, rfl, rfl, rfl⟩, by decide, by kernel_rfl, fun h => by cases h⟩
/-! warren/bitset.Has -/
def an42 : An := ⟨fun _ => .none, fun _ => 0, fun _ => false, fun _ => .none⟩
noncomputable def fi42 : FI := ⟨2, 17, Tryd.f42.body.getD .skip, Tryd.f42.results.toList, an42, false, false⟩
theorem ok42 : FnOk Tryd.prog 42 fi42 := ⟨⟨Tryd.f42, Tryd.func42, by kernel_rfl, rfl, rfl, rfl⟩, by decide, by kernel_rfl, fun h => by cases h⟩
/-! warren/bitset.With -/
def an43 : An := ⟨fun _ => .none, fun _ => 0, fun _ => false, fun _ => .none⟩
noncomputable def fi43 : FI := ⟨2, 16, Tryd.f43.body.getD .skip, Tryd.f43.results.toList, an43, false, false⟩
theorem ok43 : FnOk Tryd.prog 43 fi43 := ⟨⟨Tryd.f43, Tryd.func43, by kernel_rfl, rfl, rfl, rfl⟩, by decide, by kernel_rfl, fun h => by cases h⟩
/-! warren/bitset.Without -/
def an45 : An := ⟨fun _ => .none, fun _ => 0, fun _ => false, fun _ => .none⟩
noncomputable def fi45 : FI := ⟨2, 16, Tryd.f45.body.getD .skip, Tryd.f45.results.toList, an45, false, false⟩
theorem ok45 : FnOk Tryd.prog 45 fi45 := ⟨⟨Tryd.f45, Tryd.func45, by kernel_rfl, rfl, rfl, rfl⟩, by decide, by kernel_rfl, fun h => by cases h⟩
/-! warren/bitset.Count -/
def an41 : An := ⟨fun | 3 => some [3, 6, 7] | _ => .none, fun _ => 0, fun _ => false, fun _ => .none⟩
noncomputable def fi41 : FI := ⟨1, 16, Tryd.f41.body.getD .skip, Tryd.f41.results.toList, an41, false, false⟩
theorem ok41 : FnOk Tryd.prog 41 fi41 := ⟨⟨Tryd.f41, Tryd.func41, by kernel_rfl, rfl, rfl, rfl⟩, by decide, by kernel_rfl, fun h => by cases h⟩
noncomputable def lp41_0 : Code := subC [1, 1, 0, 1, 0, 0] (Tryd.f41.body.getD .skip)   -- head 3 keep [3, 6, 7]
/-! warren/bitset.Both -/
def an46 : An := ⟨fun | 2 => some [2, 3, 4, 6] | _ => .none, fun _ => 0, fun _ => false, fun _ => .none⟩
noncomputable def fi46 : FI := ⟨2, 19, Tryd.f46.body.getD .skip, Tryd.f46.results.toList, an46, false, false⟩
theorem ok46 : FnOk Tryd.prog 46 fi46 := ⟨⟨Tryd.f46, Tryd.func46, by kernel_rfl, rfl, rfl, rfl⟩, by decide, by kernel_rfl, fun h => by cases h⟩
noncomputable def lp46_0 : Code := subC [1, 0, 1, 0, 0] (Tryd.f46.body.getD .skip)   -- head 2 keep [2, 3, 4, 6]
/-! warren/bitset.Either -/
def an47 : An := ⟨fun | 2 => some [2, 3, 4, 6] | _ => .none, fun _ => 0, fun _ => false, fun _ => .none⟩
noncomputable def fi47 : FI := ⟨2, 19, Tryd.f47.body.getD .skip, Tryd.f47.results.toList, an47, false, false⟩
theorem ok47 : FnOk Tryd.prog 47 fi47 := ⟨⟨Tryd.f47, Tryd.func47, by kernel_rfl, rfl, rfl, rfl⟩, by decide, by kernel_rfl, fun h => by cases h⟩
noncomputable def lp47_0 : Code := subC [1, 0, 1, 0, 0] (Tryd.f47.body.getD .skip)   -- head 2 keep [2, 3, 4, 6]
/-! warren/bitset.Less -/
def an48 : An := ⟨fun | 2 => some [2, 3, 4, 6] | _ => .none, fun _ => 0, fun _ => false, fun _ => .none⟩
noncomputable def fi48 : FI := ⟨2, 19, Tryd.f48.body.getD .skip, Tryd.f48.results.toList, an48, false, false⟩
theorem ok48 : FnOk Tryd.prog 48 fi48 := ⟨⟨Tryd.f48, Tryd.func48, by kernel_rfl, rfl, rfl, rfl⟩, by decide, by kernel_rfl, fun h => by cases h⟩
noncomputable def lp48_0 : Code := subC [1, 0, 1, 0, 0] (Tryd.f48.body.getD .skip)   -- head 2 keep [2, 3, 4, 6]
/-! warren/bitset.Below -/
def an49 : An := ⟨fun | 4 => some [0, 2, 3, 9] | _ => .none, fun _ => 0, fun _ => false, fun _ => .none⟩
noncomputable def fi49 : FI := ⟨1, 32, Tryd.f49.body.getD .skip, Tryd.f49.results.toList, an49, false, false⟩
theorem ok49 : FnOk Tryd.prog 49 fi49 := ⟨⟨Tryd.f49, Tryd.func49, by kernel_rfl, rfl, rfl, rfl⟩, by decide, by kernel_rfl, fun h => by cases h⟩
noncomputable def lp49_0 : Code := subC [1, 1, 1, 0, 1, 0, 0] (Tryd.f49.body.getD .skip)   -- head 4 keep [0, 2, 3, 9]
/-! warren/bitset.All -/
def an39 : An := ⟨fun | 3 => some [3, 6, 7] | 5 => some [3, 4, 5, 6, 7] | _ => .none, fun _ => 0, fun _ => false, fun _ => .none⟩
noncomputable def fi39 : FI := ⟨1, 27, Tryd.f39.body.getD .skip, Tryd.f39.results.toList, an39, false, false⟩
theorem ok39 : FnOk Tryd.prog 39 fi39 := ⟨⟨Tryd.f39, Tryd.func39, by kernel_rfl, rfl, rfl, rfl⟩, by decide, by kernel_rfl, fun h => by cases h⟩
noncomputable def lp39_0 : Code := subC [1, 1, 0, 1, 0, 0] (Tryd.f39.body.getD .skip)   -- head 3 keep [3, 6, 7]
noncomputable def lp39_1 : Code := subC [1, 1, 0, 1, 0, 0, 1, 1, 0, 0, 1, 0, 0] (Tryd.f39.body.getD .skip)   -- head 5 keep [3, 4, 5, 6, 7]
/-! warren/bitset.Take -/
def an51 : An := ⟨fun | 7 => some [2, 5, 7, 27, 28, 29] | _ => .none, fun _ => 0, fun _ => false, fun _ => .none⟩
noncomputable def fi51 : FI := ⟨2, 39, Tryd.f51.body.getD .skip, Tryd.f51.results.toList, an51, false, false⟩
theorem ok51 : FnOk Tryd.prog 51 fi51 := ⟨⟨Tryd.f51, Tryd.func51, by kernel_rfl, rfl, rfl, rfl⟩, by decide, by kernel_rfl, fun h => by cases h⟩
noncomputable def lp51_0 : Code := subC [1, 1, 1, 0, 1, 0, 0] (Tryd.f51.body.getD .skip)   -- head 7 keep [2, 5, 7, 27, 28, 29]
structure Lib17 (C : Callees) : Prop extends LibInt C where
  f71 : Has T C 71 fi71
  f72 : Has T C 72 fi72
  f42 : Has T C 42 fi42
  f43 : Has T C 43 fi43
  f45 : Has T C 45 fi45
  f41 : Has T C 41 fi41
  f46 : Has T C 46 fi46
  f47 : Has T C 47 fi47
  f48 : Has T C 48 fi48
  f49 : Has T C 49 fi49
  f39 : Has T C 39 fi39
  f51 : Has T C 51 fi51

variable {C : Callees}

theorem nat0 (a : Nat) : (0 : Int) ≤ (a : Int) := Int.natCast_nonneg a
theorem u64_andn {x y : Nat} (hx : x < 18446744073709551616) (hy : y < 18446744073709551616) : bitsV .andNot .u64 (x : Int) (y : Int) = ((andW x y : Nat) : Int) := bits_nat (k := .u64) rfl .andNot x y hx hy
theorem and_pow {x b : Nat} : (((x &&& 2 ^ b : Nat) : Int) = 0) = (x.testBit b = false) := by
  apply propext
  rw [Int.natCast_eq_zero]
  constructor
  · intro h
    have := congrArg (fun n => n.testBit b) h
    simpa [Nat.testBit_and, pow_bit] using this
  · intro h
    apply Nat.eq_of_testBit_eq
    intro i
    rw [Nat.testBit_and, pow_bit, Nat.zero_testBit]
    by_cases e : b = i
    · subst e; rw [h]; rfl
    · simp [e]

/-- Can it be in a set? -/
def mayN (a : Int) : Bool := decide (0 ≤ a) && decide (a < 1024)
theorem mayN_t {a : Int} (h : mayN a = true) : ∃ n : Nat, a = n ∧ n < 1024 := by
  simp only [mayN, Bool.and_eq_true, decide_eq_true_eq] at h
  exact ⟨a.toNat, by omega, by omega⟩
theorem mayN_n {n : Nat} (h : n < 1024) : mayN (n : Int) = true := by
  simp only [mayN, Bool.and_eq_true, decide_eq_true_eq]; omega

set_option maxRecDepth 10000 in
theorem run71 (C : Callees) (a : Int) (B : Hp) : runV T C fi71 [.int .i64 a] B = some (.bool (mayN a), B) := by
  rw [e_run _ _ _ rfl]
  unfold mayN
  by_cases h1 : 0 ≤ a
  · have g1 : a ≥ 0 := h1
    by_cases h2 : a < 1024
    · simp only [fi71, Tryd.f71, an71, g1, h1, h2, T3, EL, List.replicate_succ, stepD, accs, accP, accW, simpleOp, isAl, isExt, flipD, D.fresh1, D.row, D.plain, D.plain.plainL, St.close, St.close1, St.borrow, retV, resV, resL, outCL, outC, outL, outD, wantedV, opV, An.mid, thawV, D.plainU, prune, envOf, get, put, eval, evalT, nz, argsV, capsV, ofV, binV, binV.aggV, unV, intV, eqOp, isConst, natV, optV, loadV, loadC, storeV, setC, St.at_, partV, partTy, indexAddrV, fieldAddrV, sliceV, sliceV.rowSl, sliceV.strSl, bounds, cutP, builtinV, lenV, maxL, maxV, appendV, St.elems, roomy, rowOf, rowS, isStr, esz, tdOf, convV, buildV, fillV, partsV, okParts, fillL, D.whole, D.demoteC, D.demote, demoteL, D.global, D.flat, D.leaf, D.cells, TI.agg, TD.rowish, callOpV, moveL, CC, keepB, St.borrowL, St.borrow, D.isLsl, adoptR, adoptC, adoptCL, adoptL, adopt, List.toArray, Array.toList, Nat.reduceEqDiff, Nat.reduceAdd, Nat.reduceSub, Nat.reduceMul, Nat.reduceLeDiff, Nat.reduceLT, reduceIte, reduceCtorEq, forall_const, imp_self, Int.reduceNeg, Int.reduceLT, Int.reduceLE, Int.reduceGT, Int.reduceGE, Int.reduceAdd, Int.reduceSub, Int.reduceMul, Int.reduceToNat, Int.reduceEq, ne_eq, eq_self]
    · simp only [fi71, Tryd.f71, an71, g1, h1, h2, T3, EL, List.replicate_succ, stepD, accs, accP, accW, simpleOp, isAl, isExt, flipD, D.fresh1, D.row, D.plain, D.plain.plainL, St.close, St.close1, St.borrow, retV, resV, resL, outCL, outC, outL, outD, wantedV, opV, An.mid, thawV, D.plainU, prune, envOf, get, put, eval, evalT, nz, argsV, capsV, ofV, binV, binV.aggV, unV, intV, eqOp, isConst, natV, optV, loadV, loadC, storeV, setC, St.at_, partV, partTy, indexAddrV, fieldAddrV, sliceV, sliceV.rowSl, sliceV.strSl, bounds, cutP, builtinV, lenV, maxL, maxV, appendV, St.elems, roomy, rowOf, rowS, isStr, esz, tdOf, convV, buildV, fillV, partsV, okParts, fillL, D.whole, D.demoteC, D.demote, demoteL, D.global, D.flat, D.leaf, D.cells, TI.agg, TD.rowish, callOpV, moveL, CC, keepB, St.borrowL, St.borrow, D.isLsl, adoptR, adoptC, adoptCL, adoptL, adopt, List.toArray, Array.toList, Nat.reduceEqDiff, Nat.reduceAdd, Nat.reduceSub, Nat.reduceMul, Nat.reduceLeDiff, Nat.reduceLT, reduceIte, reduceCtorEq, forall_const, imp_self, Int.reduceNeg, Int.reduceLT, Int.reduceLE, Int.reduceGT, Int.reduceGE, Int.reduceAdd, Int.reduceSub, Int.reduceMul, Int.reduceToNat, Int.reduceEq, ne_eq, eq_self]
  · have g1 : ¬ a ≥ 0 := h1
    simp only [fi71, Tryd.f71, an71, g1, h1, T3, EL, List.replicate_succ, stepD, accs, accP, accW, simpleOp, isAl, isExt, flipD, D.fresh1, D.row, D.plain, D.plain.plainL, St.close, St.close1, St.borrow, retV, resV, resL, outCL, outC, outL, outD, wantedV, opV, An.mid, thawV, D.plainU, prune, envOf, get, put, eval, evalT, nz, argsV, capsV, ofV, binV, binV.aggV, unV, intV, eqOp, isConst, natV, optV, loadV, loadC, storeV, setC, St.at_, partV, partTy, indexAddrV, fieldAddrV, sliceV, sliceV.rowSl, sliceV.strSl, bounds, cutP, builtinV, lenV, maxL, maxV, appendV, St.elems, roomy, rowOf, rowS, isStr, esz, tdOf, convV, buildV, fillV, partsV, okParts, fillL, D.whole, D.demoteC, D.demote, demoteL, D.global, D.flat, D.leaf, D.cells, TI.agg, TD.rowish, callOpV, moveL, CC, keepB, St.borrowL, St.borrow, D.isLsl, adoptR, adoptC, adoptCL, adoptL, adopt, List.toArray, Array.toList, Nat.reduceEqDiff, Nat.reduceAdd, Nat.reduceSub, Nat.reduceMul, Nat.reduceLeDiff, Nat.reduceLT, reduceIte, reduceCtorEq, forall_const, imp_self, Int.reduceNeg, Int.reduceLT, Int.reduceLE, Int.reduceGT, Int.reduceGE, Int.reduceAdd, Int.reduceSub, Int.reduceMul, Int.reduceToNat, Int.reduceEq, ne_eq, eq_self]
theorem c71 (hC : Lib17 C) (a : Int) (B : Hp) : C 71 [.int .i64 a] B = some (.bool (mayN a), B) := hC.f71 _ _ _ (run71 C a B)

set_option maxRecDepth 10000 in
theorem run72 (C : Callees) (b : Nat) (h : b < 1024) (B : Hp) : runV T C fi72 [.int .i64 b] B = some (.int .u64 (2 ^ (b % 64) : Nat), B) := by
  rw [e_run _ _ _ rfl]
  have g1 : IntKind.u64.wrap (b : Int) = b := wrap_u64 (by omega) (by omega)
  have g2 : bitsV .and .u64 (b : Int) 63 = ((b % 64 : Nat) : Int) := by
    have := u64_and b 63 (by omega) (by decide)
    rw [show b &&& 63 = b % 64 from Nat.and_two_pow_sub_one_eq_mod b 6] at this
    exact this
  have g3 : ¬ ((b % 64 : Nat) : Int) < 0 := by omega
  have g4 := shl_one (b := b % 64) (by omega)
  simp only [fi72, Tryd.f72, an72, g1, g2, g3, g4, T3, T59, T66, EL, List.replicate_succ, stepD, accs, accP, accW, simpleOp, isAl, isExt, flipD, D.fresh1, D.row, D.plain, D.plain.plainL, St.close, St.close1, St.borrow, retV, resV, resL, outCL, outC, outL, outD, wantedV, opV, An.mid, thawV, D.plainU, prune, envOf, get, put, eval, evalT, nz, argsV, capsV, ofV, binV, binV.aggV, unV, intV, eqOp, isConst, natV, optV, loadV, loadC, storeV, setC, St.at_, partV, partTy, indexAddrV, fieldAddrV, sliceV, sliceV.rowSl, sliceV.strSl, bounds, cutP, builtinV, lenV, maxL, maxV, appendV, St.elems, roomy, rowOf, rowS, isStr, esz, tdOf, convV, buildV, fillV, partsV, okParts, fillL, D.whole, D.demoteC, D.demote, demoteL, D.global, D.flat, D.leaf, D.cells, TI.agg, TD.rowish, callOpV, moveL, CC, keepB, St.borrowL, St.borrow, D.isLsl, adoptR, adoptC, adoptCL, adoptL, adopt, List.toArray, Array.toList, Nat.reduceEqDiff, Nat.reduceAdd, Nat.reduceSub, Nat.reduceMul, Nat.reduceLeDiff, Nat.reduceLT, reduceIte, reduceCtorEq, forall_const, imp_self, Int.reduceNeg, Int.reduceLT, Int.reduceLE, Int.reduceGT, Int.reduceGE, Int.reduceAdd, Int.reduceSub, Int.reduceMul, Int.reduceToNat, Int.reduceEq, ne_eq, eq_self]
theorem c72 (hC : Lib17 C) (b : Nat) (h : b < 1024) (B : Hp) : C 72 [.int .i64 b] B = some (.int .u64 (2 ^ (b % 64) : Nat), B) := hC.f72 _ _ _ (run72 C b h B)

abbrev sD (s : Nat → Nat) : D := .agg (nums .u64 16 s)
theorem shr6 (n : Nat) : shrV .i64 (n : Int) 6 = ((n / 64 : Nat) : Int) := shr_nat .i64 n 6 (by decide)

def hasS (s : Nat → Nat) (a : Int) : Bool := mayN a && mem s a.toNat
set_option maxRecDepth 10000 in
theorem run42 (hC : Lib17 C) {s : Nat → Nat} (hs : Wds s) (a : Int) (B : Hp) : runV T C fi42 [sD s, .int .i64 a] B = some (.bool (hasS s a), B) := by
  rw [e_run _ _ _ rfl]
  unfold hasS
  have c1 := c71 hC a
  cases e1 : mayN a <;> rw [e1] at c1
  · simp only [fi42, Tryd.f42, an42, c1, AL, T3, T66, T75, EL, List.replicate_succ, stepD, accs, accP, accW, simpleOp, isAl, isExt, flipD, D.fresh1, D.row, D.plain, D.plain.plainL, St.close, St.close1, St.borrow, retV, resV, resL, outCL, outC, outL, outD, wantedV, opV, An.mid, thawV, D.plainU, prune, envOf, get, put, eval, evalT, nz, argsV, capsV, ofV, binV, binV.aggV, unV, intV, eqOp, isConst, natV, optV, loadV, loadC, storeV, setC, St.at_, partV, partTy, indexAddrV, fieldAddrV, sliceV, sliceV.rowSl, sliceV.strSl, bounds, cutP, builtinV, lenV, maxL, maxV, appendV, St.elems, roomy, rowOf, rowS, isStr, esz, tdOf, convV, buildV, fillV, partsV, okParts, fillL, D.whole, D.demoteC, D.demote, demoteL, D.global, D.flat, D.leaf, D.cells, TI.agg, TD.rowish, callOpV, moveL, CC, keepB, St.borrowL, St.borrow, D.isLsl, adoptR, adoptC, adoptCL, adoptL, adopt, List.toArray, Array.toList, Nat.reduceEqDiff, Nat.reduceAdd, Nat.reduceSub, Nat.reduceMul, Nat.reduceLeDiff, Nat.reduceLT, reduceIte, reduceCtorEq, forall_const, imp_self, Int.reduceNeg, Int.reduceLT, Int.reduceLE, Int.reduceGT, Int.reduceGE, Int.reduceAdd, Int.reduceSub, Int.reduceMul, Int.reduceToNat, Int.reduceEq, ne_eq, eq_self]
  · obtain ⟨n, rfl, hn⟩ := mayN_t e1
    have c2 := c72 hC n hn
    have n2 := nat0 (n / 64)
    have g1 := shr6 n
    have h16 : n / 64 < 16 := by omega
    have g2 := nums_get (k := .u64) (m := s) h16
    have b1 := u64_and (s (n / 64)) (2 ^ (n % 64)) (hs _ h16) (pow64 (Nat.mod_lt _ (by decide)))
    have z1 := and_pow (x := s (n / 64)) (b := n % 64)
    unfold mem
    cases e2 : (s (n / 64)).testBit (n % 64) <;> rw [e2] at z1 <;>
    simp only [fi42, Tryd.f42, an42, c1, c2, n2, g1, h16, g2, b1, z1, e2, AL, T3, T66, T75, EL, List.replicate_succ, stepD, accs, accP, accW, simpleOp, isAl, isExt, flipD, D.fresh1, D.row, D.plain, D.plain.plainL, St.close, St.close1, St.borrow, retV, resV, resL, outCL, outC, outL, outD, wantedV, opV, An.mid, thawV, D.plainU, prune, envOf, get, put, eval, evalT, nz, argsV, capsV, ofV, binV, binV.aggV, unV, intV, eqOp, isConst, natV, optV, loadV, loadC, storeV, setC, St.at_, partV, partTy, indexAddrV, fieldAddrV, sliceV, sliceV.rowSl, sliceV.strSl, bounds, cutP, builtinV, lenV, maxL, maxV, appendV, St.elems, roomy, rowOf, rowS, isStr, esz, tdOf, convV, buildV, fillV, partsV, okParts, fillL, D.whole, D.demoteC, D.demote, demoteL, D.global, D.flat, D.leaf, D.cells, TI.agg, TD.rowish, callOpV, moveL, CC, keepB, St.borrowL, St.borrow, D.isLsl, adoptR, adoptC, adoptCL, adoptL, adopt, List.toArray, Array.toList, Nat.reduceEqDiff, Nat.reduceAdd, Nat.reduceSub, Nat.reduceMul, Nat.reduceLeDiff, Nat.reduceLT, reduceIte, reduceCtorEq, forall_const, imp_self, Int.reduceNeg, Int.reduceLT, Int.reduceLE, Int.reduceGT, Int.reduceGE, Int.reduceAdd, Int.reduceSub, Int.reduceMul, Int.reduceToNat, Int.reduceEq, ne_eq, eq_self]
theorem c42 (hC : Lib17 C) {s : Nat → Nat} (hs : Wds s) (a : Int) (B : Hp) : C 42 [.agg (nums .u64 16 s), .int .i64 a] B = some (.bool (hasS s a), B) := hC.f42 _ _ _ (run42 hC hs a B)

/-! ### With, without -/
def withN (s : Nat → Nat) (a : Int) : Nat → Nat := if mayN a = true then withS s a.toNat else s
def woutN (s : Nat → Nat) (a : Int) : Nat → Nat := if mayN a = true then woutS s a.toNat else s

set_option maxRecDepth 10000 in
theorem run43 (hC : Lib17 C) {s : Nat → Nat} (hs : Wds s) (a : Int) (B : Hp) : runV T C fi43 [sD s, .int .i64 a] B = some (sD (withN s a), B) := by
  rw [e_run _ _ _ rfl]
  unfold withN
  have c1 := c71 hC a
  cases e1 : mayN a <;> rw [e1] at c1
  · simp only [fi43, Tryd.f43, an43, c1, AL, T3, T66, T75, EL, List.replicate_succ, stepD, accs, accP, accW, simpleOp, isAl, isExt, flipD, D.fresh1, D.row, D.plain, D.plain.plainL, St.close, St.close1, St.borrow, retV, resV, resL, outCL, outC, outL, outD, wantedV, opV, An.mid, thawV, D.plainU, prune, envOf, get, put, eval, evalT, nz, argsV, capsV, ofV, binV, binV.aggV, unV, intV, eqOp, isConst, natV, optV, loadV, loadC, storeV, St.at_, partV, partTy, indexAddrV, fieldAddrV, sliceV, sliceV.rowSl, sliceV.strSl, bounds, cutP, builtinV, lenV, maxL, maxV, appendV, St.elems, roomy, rowOf, rowS, isStr, esz, tdOf, convV, buildV, fillV, partsV, okParts, fillL, D.whole, D.demoteC, D.demote, demoteL, D.global, D.flat, D.leaf, D.cells, TI.agg, TD.rowish, callOpV, moveL, CC, keepB, St.borrowL, St.borrow, D.isLsl, adoptR, adoptC, adoptCL, adoptL, adopt, List.toArray, Array.toList, Nat.reduceEqDiff, Nat.reduceAdd, Nat.reduceSub, Nat.reduceMul, Nat.reduceLeDiff, Nat.reduceLT, reduceIte, reduceCtorEq, forall_const, imp_self, Int.reduceNeg, Int.reduceLT, Int.reduceLE, Int.reduceGT, Int.reduceGE, Int.reduceAdd, Int.reduceSub, Int.reduceMul, Int.reduceToNat, Int.reduceEq, ne_eq, eq_self]
  · obtain ⟨n, rfl, hn⟩ := mayN_t e1
    have c2 := c72 hC n hn
    have n2 := nat0 (n / 64)
    have g1 := shr6 n
    have h16 : n / 64 < 16 := by omega
    have g2 := nums_get (k := .u64) (m := s) h16
    have b1 := u64_or (s (n / 64)) (2 ^ (n % 64)) (hs _ h16) (pow64 (Nat.mod_lt _ (by decide)))
    have s1 := nums_set (k := .u64) (m := s) (x := s (n / 64) ||| 2 ^ (n % 64)) h16
    simp only [fi43, Tryd.f43, an43, c1, c2, n2, g1, h16, g2, b1, s1, AL, T3, T66, T75, EL, List.replicate_succ, stepD, accs, accP, accW, simpleOp, isAl, isExt, flipD, D.fresh1, D.row, D.plain, D.plain.plainL, St.close, St.close1, St.borrow, retV, resV, resL, outCL, outC, outL, outD, wantedV, opV, An.mid, thawV, D.plainU, prune, envOf, get, put, eval, evalT, nz, argsV, capsV, ofV, binV, binV.aggV, unV, intV, eqOp, isConst, natV, optV, loadV, loadC, storeV, St.at_, partV, partTy, indexAddrV, fieldAddrV, sliceV, sliceV.rowSl, sliceV.strSl, bounds, cutP, builtinV, lenV, maxL, maxV, appendV, St.elems, roomy, rowOf, rowS, isStr, esz, tdOf, convV, buildV, fillV, partsV, okParts, fillL, D.whole, D.demoteC, D.demote, demoteL, D.global, D.flat, D.leaf, D.cells, TI.agg, TD.rowish, callOpV, moveL, CC, keepB, St.borrowL, St.borrow, D.isLsl, adoptR, adoptC, adoptCL, adoptL, adopt, List.toArray, Array.toList, Nat.reduceEqDiff, Nat.reduceAdd, Nat.reduceSub, Nat.reduceMul, Nat.reduceLeDiff, Nat.reduceLT, reduceIte, reduceCtorEq, forall_const, imp_self, Int.reduceNeg, Int.reduceLT, Int.reduceLE, Int.reduceGT, Int.reduceGE, Int.reduceAdd, Int.reduceSub, Int.reduceMul, Int.reduceToNat, Int.reduceEq, ne_eq, eq_self]
    rfl
theorem c43 (hC : Lib17 C) {s : Nat → Nat} (hs : Wds s) (a : Int) (B : Hp) : C 43 [.agg (nums .u64 16 s), .int .i64 a] B = some (.agg (nums .u64 16 (withN s a)), B) := hC.f43 _ _ _ (run43 hC hs a B)

set_option maxRecDepth 10000 in
theorem run45 (hC : Lib17 C) {s : Nat → Nat} (hs : Wds s) (a : Int) (B : Hp) : runV T C fi45 [sD s, .int .i64 a] B = some (sD (woutN s a), B) := by
  rw [e_run _ _ _ rfl]
  unfold woutN
  have c1 := c71 hC a
  cases e1 : mayN a <;> rw [e1] at c1
  · simp only [fi45, Tryd.f45, an45, c1, AL, T3, T66, T75, EL, List.replicate_succ, stepD, accs, accP, accW, simpleOp, isAl, isExt, flipD, D.fresh1, D.row, D.plain, D.plain.plainL, St.close, St.close1, St.borrow, retV, resV, resL, outCL, outC, outL, outD, wantedV, opV, An.mid, thawV, D.plainU, prune, envOf, get, put, eval, evalT, nz, argsV, capsV, ofV, binV, binV.aggV, unV, intV, eqOp, isConst, natV, optV, loadV, loadC, storeV, St.at_, partV, partTy, indexAddrV, fieldAddrV, sliceV, sliceV.rowSl, sliceV.strSl, bounds, cutP, builtinV, lenV, maxL, maxV, appendV, St.elems, roomy, rowOf, rowS, isStr, esz, tdOf, convV, buildV, fillV, partsV, okParts, fillL, D.whole, D.demoteC, D.demote, demoteL, D.global, D.flat, D.leaf, D.cells, TI.agg, TD.rowish, callOpV, moveL, CC, keepB, St.borrowL, St.borrow, D.isLsl, adoptR, adoptC, adoptCL, adoptL, adopt, List.toArray, Array.toList, Nat.reduceEqDiff, Nat.reduceAdd, Nat.reduceSub, Nat.reduceMul, Nat.reduceLeDiff, Nat.reduceLT, reduceIte, reduceCtorEq, forall_const, imp_self, Int.reduceNeg, Int.reduceLT, Int.reduceLE, Int.reduceGT, Int.reduceGE, Int.reduceAdd, Int.reduceSub, Int.reduceMul, Int.reduceToNat, Int.reduceEq, ne_eq, eq_self]
  · obtain ⟨n, rfl, hn⟩ := mayN_t e1
    have c2 := c72 hC n hn
    have n2 := nat0 (n / 64)
    have g1 := shr6 n
    have h16 : n / 64 < 16 := by omega
    have g2 := nums_get (k := .u64) (m := s) h16
    have b1 := u64_andn (x := s (n / 64)) (y := 2 ^ (n % 64)) (hs _ h16) (pow64 (Nat.mod_lt _ (by decide)))
    have s1 := nums_set (k := .u64) (m := s) (x := andW (s (n / 64)) (2 ^ (n % 64))) h16
    simp only [fi45, Tryd.f45, an45, c1, c2, n2, g1, h16, g2, b1, s1, AL, T3, T66, T75, EL, List.replicate_succ, stepD, accs, accP, accW, simpleOp, isAl, isExt, flipD, D.fresh1, D.row, D.plain, D.plain.plainL, St.close, St.close1, St.borrow, retV, resV, resL, outCL, outC, outL, outD, wantedV, opV, An.mid, thawV, D.plainU, prune, envOf, get, put, eval, evalT, nz, argsV, capsV, ofV, binV, binV.aggV, unV, intV, eqOp, isConst, natV, optV, loadV, loadC, storeV, St.at_, partV, partTy, indexAddrV, fieldAddrV, sliceV, sliceV.rowSl, sliceV.strSl, bounds, cutP, builtinV, lenV, maxL, maxV, appendV, St.elems, roomy, rowOf, rowS, isStr, esz, tdOf, convV, buildV, fillV, partsV, okParts, fillL, D.whole, D.demoteC, D.demote, demoteL, D.global, D.flat, D.leaf, D.cells, TI.agg, TD.rowish, callOpV, moveL, CC, keepB, St.borrowL, St.borrow, D.isLsl, adoptR, adoptC, adoptCL, adoptL, adopt, List.toArray, Array.toList, Nat.reduceEqDiff, Nat.reduceAdd, Nat.reduceSub, Nat.reduceMul, Nat.reduceLeDiff, Nat.reduceLT, reduceIte, reduceCtorEq, forall_const, imp_self, Int.reduceNeg, Int.reduceLT, Int.reduceLE, Int.reduceGT, Int.reduceGE, Int.reduceAdd, Int.reduceSub, Int.reduceMul, Int.reduceToNat, Int.reduceEq, ne_eq, eq_self]
    rfl
theorem c45 (hC : Lib17 C) {s : Nat → Nat} (hs : Wds s) (a : Int) (B : Hp) : C 45 [.agg (nums .u64 16 s), .int .i64 a] B = some (.agg (nums .u64 16 (woutN s a)), B) := hC.f45 _ _ _ (run45 hC hs a B)

/-! ### Count -/
theorem cntW_le (s : Nat → Nat) (hs : Wds s) : ∀ i, i ≤ 16 → cntW s i ≤ i * 64 := fun i hi => by rw [cntW_eq hs i hi]; exact cntB_le _ _
theorem ones_64 {v : Nat} (h : v < 18446744073709551616) : onesN v ≤ 64 := by rw [ones_cnt 64 v h]; exact cntB_le _ _
def st41 (B : Hp) (s : Nat → Nat) (i : Nat) : St := ⟨[(3, .int .i64 (cntW s i : Nat)), (6, sD s), (7, .int .i64 i)], [], [], B⟩
set_option maxRecDepth 10000 in
theorem loop41 (hC : Lib17 C) (B : Hp) {s : Nat → Nat} (hs : Wds s) (st : St) (hst : an41.at_ (some 3) st = st41 B s 0) :
    ∃ x st', loopC T an41 C lp41_0 st = some (x, st') ∧ x = .exit 0 ∧ ∃ ρ L, st' = ⟨ρ, L, [], B⟩ ∧ get ρ 3 = .int .i64 (cnt s : Nat) := by
  refine loop_rule (st41 B s) (fun i => i ≤ 16) (fun i => 16 - i) _ ?_ 0 st hst (by omega)
  intro i hi
  rcases Nat.lt_or_ge i 16 with h | h
  · left
    refine ⟨i + 1, ?_, by omega, by omega⟩
    have g0 : (i : Int) < 16 := by omega
    have w1 : IntKind.i64.wrap ((i : Int) + 1) = ((i + 1 : Nat) : Int) := by rw [wrapI (by omega) (by omega)]; rfl
    have n1 := nat0 i
    have g1 := nums_get (k := .u64) (m := s) h
    have c1 := i70 hC.toLibInt (s i) (hs i h)
    have h1 := cntW_le s hs i hi
    have h2 := ones_64 (hs i h)
    have w2 : IntKind.i64.wrap (((cntW s i : Nat) : Int) + ((onesN (s i) : Nat) : Int)) = ((cntW s (i + 1) : Nat) : Int) := by rw [wrapI (by omega) (by omega), cntW]; rfl
    simp only [st41, lp41_0, subC, atC, Tryd.f41, an41, g0, w1, n1, h, g1, c1, w2, AL, T3, T66, T75, EL, List.replicate_succ, stepD, accs, accP, accW, simpleOp, isAl, isExt, flipD, D.fresh1, D.row, D.plain, D.plain.plainL, St.close, St.close1, St.borrow, retV, resV, resL, outCL, outC, outL, outD, wantedV, opV, An.mid, thawV, D.plainU, prune, envOf, get, put, eval, evalT, nz, argsV, capsV, ofV, binV, binV.aggV, unV, intV, eqOp, isConst, natV, optV, loadV, loadC, storeV, setC, St.at_, partV, partTy, indexAddrV, fieldAddrV, sliceV, sliceV.rowSl, sliceV.strSl, bounds, cutP, builtinV, lenV, maxL, maxV, appendV, St.elems, roomy, rowOf, rowS, isStr, esz, tdOf, convV, buildV, fillV, partsV, okParts, fillL, D.whole, D.demoteC, D.demote, demoteL, D.global, D.flat, D.leaf, D.cells, TI.agg, TD.rowish, callOpV, moveL, CC, keepB, St.borrowL, St.borrow, D.isLsl, adoptR, adoptC, adoptCL, adoptL, adopt, List.toArray, Array.toList, Nat.reduceEqDiff, Nat.reduceAdd, Nat.reduceSub, Nat.reduceMul, Nat.reduceLeDiff, Nat.reduceLT, reduceIte, reduceCtorEq, forall_const, imp_self, Int.reduceNeg, Int.reduceLT, Int.reduceLE, Int.reduceGT, Int.reduceGE, Int.reduceAdd, Int.reduceSub, Int.reduceMul, Int.reduceToNat, Int.reduceEq, ne_eq, eq_self]
    exact ⟨_, rfl, rfl⟩
  · right
    obtain rfl : i = 16 := by omega
    have g0 : ¬ ((16 : Nat) : Int) < 16 := by omega
    simp only [st41, lp41_0, subC, atC, Tryd.f41, an41, g0, T3, T66, T75, EL, List.replicate_succ, stepD, accs, accP, accW, simpleOp, isAl, isExt, flipD, D.fresh1, D.row, D.plain, D.plain.plainL, St.close, St.close1, St.borrow, retV, resV, resL, outCL, outC, outL, outD, wantedV, opV, An.mid, thawV, D.plainU, prune, envOf, get, put, eval, evalT, nz, argsV, capsV, ofV, binV, binV.aggV, unV, intV, eqOp, isConst, natV, optV, loadV, loadC, storeV, setC, St.at_, partV, partTy, indexAddrV, fieldAddrV, sliceV, sliceV.rowSl, sliceV.strSl, bounds, cutP, builtinV, lenV, maxL, maxV, appendV, St.elems, roomy, rowOf, rowS, isStr, esz, tdOf, convV, buildV, fillV, partsV, okParts, fillL, D.whole, D.demoteC, D.demote, demoteL, D.global, D.flat, D.leaf, D.cells, TI.agg, TD.rowish, callOpV, moveL, CC, keepB, St.borrowL, St.borrow, D.isLsl, adoptR, adoptC, adoptCL, adoptL, adopt, List.toArray, Array.toList, Nat.reduceEqDiff, Nat.reduceAdd, Nat.reduceSub, Nat.reduceMul, Nat.reduceLeDiff, Nat.reduceLT, reduceIte, reduceCtorEq, forall_const, imp_self, Int.reduceNeg, Int.reduceLT, Int.reduceLE, Int.reduceGT, Int.reduceGE, Int.reduceAdd, Int.reduceSub, Int.reduceMul, Int.reduceToNat, Int.reduceEq, ne_eq, eq_self]
    exact ⟨_, _, rfl, by simp, rfl, _, _, rfl, by rw [show cnt s = cntW s 16 from (cntW_eq hs 16 (by omega)).symm]; rfl⟩
set_option maxRecDepth 10000 in
theorem run41 (hC : Lib17 C) {s : Nat → Nat} (hs : Wds s) (B : Hp) : runV T C fi41 [sD s] B = some (.int .i64 (cnt s : Nat), B) := by
  rw [e_run _ _ _ rfl]
  simp only [fi41, Tryd.f41, an41, AL, T3, T66, T75, EL, List.replicate_succ, stepD, accs, accP, accW, simpleOp, isAl, isExt, flipD, D.fresh1, D.row, D.plain, D.plain.plainL, St.close, St.close1, St.borrow, retV, resV, resL, outCL, outC, outL, outD, wantedV, opV, An.mid, thawV, D.plainU, prune, envOf, get, put, eval, evalT, nz, argsV, capsV, ofV, binV, binV.aggV, unV, intV, eqOp, isConst, natV, optV, loadV, loadC, storeV, St.at_, partV, partTy, indexAddrV, fieldAddrV, sliceV, sliceV.rowSl, sliceV.strSl, bounds, cutP, builtinV, lenV, maxL, maxV, appendV, St.elems, roomy, rowOf, rowS, isStr, esz, tdOf, convV, buildV, fillV, partsV, okParts, fillL, D.whole, D.demoteC, D.demote, demoteL, D.global, D.flat, D.leaf, D.cells, TI.agg, TD.rowish, callOpV, moveL, CC, keepB, St.borrowL, St.borrow, D.isLsl, adoptR, adoptC, adoptCL, adoptL, adopt, List.toArray, Array.toList, Nat.reduceEqDiff, Nat.reduceAdd, Nat.reduceSub, Nat.reduceMul, Nat.reduceLeDiff, Nat.reduceLT, reduceIte, reduceCtorEq, forall_const, imp_self, Int.reduceNeg, Int.reduceLT, Int.reduceLE, Int.reduceGT, Int.reduceGE, Int.reduceAdd, Int.reduceSub, Int.reduceMul, Int.reduceToNat, Int.reduceEq, ne_eq, eq_self]
  refine' in_loop (c' := lp41_0) (fin T _ _ _) ?h rfl ?q
  case h =>
    refine loop41 hC B hs _ ?_
    simp only [an41, ren_map, toks_map, boxes_map, st41, AL, An.at_, tidyV, tidyW, tidyB, tidyT, sift, envBoxes, envToks, conToks, D.toks, D.tok1, toksL, D.boxes, D.box1, boxesL, memN, posN, renE, D.ren, D.ren1, renL, renB, St.content, St.boxOk, St.tokOk, trues, T3, T66, T75, EL, List.replicate_succ, stepD, accs, accP, accW, simpleOp, isAl, isExt, flipD, D.fresh1, D.row, D.plain, D.plain.plainL, St.close, St.close1, St.borrow, retV, resV, resL, outCL, outC, outL, outD, wantedV, opV, An.mid, thawV, D.plainU, prune, envOf, get, put, eval, evalT, nz, argsV, capsV, ofV, binV, binV.aggV, unV, intV, eqOp, isConst, natV, optV, loadV, loadC, storeV, setC, St.at_, partV, partTy, indexAddrV, fieldAddrV, sliceV, sliceV.rowSl, sliceV.strSl, bounds, cutP, builtinV, lenV, maxL, maxV, appendV, St.elems, roomy, rowOf, rowS, isStr, esz, tdOf, convV, buildV, fillV, partsV, okParts, fillL, D.whole, D.demoteC, D.demote, demoteL, D.global, D.flat, D.leaf, D.cells, TI.agg, TD.rowish, callOpV, moveL, CC, keepB, St.borrowL, St.borrow, D.isLsl, adoptR, adoptC, adoptCL, adoptL, adopt, List.toArray, Array.toList, Nat.reduceEqDiff, Nat.reduceAdd, Nat.reduceSub, Nat.reduceMul, Nat.reduceLeDiff, Nat.reduceLT, reduceIte, reduceCtorEq, forall_const, imp_self, Int.reduceNeg, Int.reduceLT, Int.reduceLE, Int.reduceGT, Int.reduceGE, Int.reduceAdd, Int.reduceSub, Int.reduceMul, Int.reduceToNat, Int.reduceEq, ne_eq, eq_self]
    rfl
  rintro x st' ⟨rfl, ρ, L, rfl, h1⟩
  simp only [h1, T3, T66, T75, EL, List.replicate_succ, stepD, accs, accP, accW, simpleOp, isAl, isExt, flipD, D.fresh1, D.row, D.plain, D.plain.plainL, St.close, St.close1, St.borrow, retV, resV, resL, outCL, outC, outL, outD, wantedV, opV, An.mid, thawV, D.plainU, prune, envOf, get, put, eval, evalT, nz, argsV, capsV, ofV, binV, binV.aggV, unV, intV, eqOp, isConst, natV, optV, loadV, loadC, storeV, setC, St.at_, partV, partTy, indexAddrV, fieldAddrV, sliceV, sliceV.rowSl, sliceV.strSl, bounds, cutP, builtinV, lenV, maxL, maxV, appendV, St.elems, roomy, rowOf, rowS, isStr, esz, tdOf, convV, buildV, fillV, partsV, okParts, fillL, D.whole, D.demoteC, D.demote, demoteL, D.global, D.flat, D.leaf, D.cells, TI.agg, TD.rowish, callOpV, moveL, CC, keepB, St.borrowL, St.borrow, D.isLsl, adoptR, adoptC, adoptCL, adoptL, adopt, List.toArray, Array.toList, Nat.reduceEqDiff, Nat.reduceAdd, Nat.reduceSub, Nat.reduceMul, Nat.reduceLeDiff, Nat.reduceLT, reduceIte, reduceCtorEq, forall_const, imp_self, Int.reduceNeg, Int.reduceLT, Int.reduceLE, Int.reduceGT, Int.reduceGE, Int.reduceAdd, Int.reduceSub, Int.reduceMul, Int.reduceToNat, Int.reduceEq, ne_eq, eq_self]
theorem c41 (hC : Lib17 C) {s : Nat → Nat} (hs : Wds s) (B : Hp) : C 41 [.agg (nums .u64 16 s)] B = some (.int .i64 (cnt s : Nat), B) := hC.f41 _ _ _ (run41 hC hs B)

/-! ### Word by word -/
/-- So far. -/
def upto (f s : Nat → Nat) (k : Nat) : Nat → Nat := fun i => if i < k then f i else s i
theorem upto_step {f s : Nat → Nat} {k : Nat} : updA (upto f s k) k (f k) = upto f s (k + 1) := by
  funext i
  unfold updA upto
  by_cases e : i = k
  · subst e; rw [if_pos rfl, if_pos (by omega)]
  · rw [if_neg e]
    by_cases e2 : i < k
    · rw [if_pos e2, if_pos (by omega)]
    · rw [if_neg e2, if_neg (by omega)]
theorem upto_at {f s : Nat → Nat} {k : Nat} : upto f s k k = s k := by unfold upto; rw [if_neg (by omega)]
theorem upto_0 {f s : Nat → Nat} : upto f s 0 = s := by funext i; unfold upto; rw [if_neg (by omega)]
theorem upto_16 {f s : Nat → Nat} : nums .u64 16 (upto f s 16) = nums .u64 16 f := nums_ext fun i hi => by unfold upto; rw [if_pos hi]
abbrev noS : Nat → Nat := fun _ => 0

def st46 (B : Hp) (s t : Nat → Nat) (k : Nat) : St := ⟨[(2, .lptr 0 0), (3, .lptr 1 0), (4, .lptr 2 0), (6, .int .i64 k)], [some (nums .u64 16 (upto (bothS s t) s k)), some (nums .u64 16 t), some (nums .u64 16 noS)], [], B⟩
set_option maxRecDepth 10000 in
theorem loop46 (C : Callees) (B : Hp) {s t : Nat → Nat} (hs : Wds s) (ht : Wds t) (st : St) (hst : an46.at_ (some 2) st = st46 B s t 0) :
    ∃ x st', loopC T an46 C lp46_0 st = some (x, st') ∧ x = .exit 0 ∧ ∃ ρ, st' = ⟨ρ, [some (nums .u64 16 (bothS s t)), some (nums .u64 16 t), some (nums .u64 16 noS)], [], B⟩ ∧ get ρ 2 = .lptr 0 0 ∧ get ρ 4 = .lptr 2 0 := by
  refine loop_rule (st46 B s t) (fun k => k ≤ 16) (fun k => 16 - k) _ ?_ 0 st hst (by omega)
  intro k hk
  rcases Nat.lt_or_ge k 16 with h | h
  · left
    refine ⟨k + 1, ?_, by omega, by omega⟩
    have g0 : (k : Int) < 16 := by omega
    have w1 : IntKind.i64.wrap ((k : Int) + 1) = ((k + 1 : Nat) : Int) := by rw [wrapI (by omega) (by omega)]; rfl
    have n1 := nat0 k
    have g1 := nums_get (k := .u64) (m := upto (bothS s t) s k) h
    rw [upto_at] at g1
    have g2 := nums_get (k := .u64) (m := t) h
    have b1 : bitsV .and .u64 ((s k : Nat) : Int) ((t k : Nat) : Int) = ((bothS s t k : Nat) : Int) := u64_and (s k) (t k) (hs k h) (ht k h)
    have s1 := nums_set (k := .u64) (m := upto (bothS s t) s k) (x := bothS s t k) h
    rw [upto_step] at s1
    simp only [st46, lp46_0, subC, atC, Tryd.f46, an46, g0, w1, n1, h, g1, g2, b1, s1, AL, T3, T66, T75, EL, List.replicate_succ, stepD, accs, accP, accW, simpleOp, isAl, isExt, flipD, D.fresh1, D.row, D.plain, D.plain.plainL, St.close, St.close1, St.borrow, retV, resV, resL, outCL, outC, outL, outD, wantedV, opV, An.mid, thawV, D.plainU, prune, envOf, get, put, eval, evalT, nz, argsV, capsV, ofV, binV, binV.aggV, unV, intV, eqOp, isConst, natV, optV, loadV, loadC, storeV, St.at_, partV, partTy, indexAddrV, fieldAddrV, sliceV, sliceV.rowSl, sliceV.strSl, bounds, cutP, builtinV, lenV, maxL, maxV, appendV, St.elems, roomy, rowOf, rowS, isStr, esz, tdOf, convV, buildV, fillV, partsV, okParts, fillL, D.whole, D.demoteC, D.demote, demoteL, D.global, D.flat, D.leaf, D.cells, TI.agg, TD.rowish, callOpV, moveL, CC, keepB, St.borrowL, St.borrow, D.isLsl, adoptR, adoptC, adoptCL, adoptL, adopt, List.toArray, Array.toList, Nat.reduceEqDiff, Nat.reduceAdd, Nat.reduceSub, Nat.reduceMul, Nat.reduceLeDiff, Nat.reduceLT, reduceIte, reduceCtorEq, forall_const, imp_self, Int.reduceNeg, Int.reduceLT, Int.reduceLE, Int.reduceGT, Int.reduceGE, Int.reduceAdd, Int.reduceSub, Int.reduceMul, Int.reduceToNat, Int.reduceEq, ne_eq, eq_self]
    exact ⟨_, rfl, rfl⟩
  · right
    obtain rfl : k = 16 := by omega
    have g0 : ¬ ((16 : Nat) : Int) < 16 := by omega
    have e := upto_16 (f := bothS s t) (s := s)
    simp only [st46, lp46_0, subC, atC, Tryd.f46, an46, g0, e, T3, T66, T75, EL, List.replicate_succ, stepD, accs, accP, accW, simpleOp, isAl, isExt, flipD, D.fresh1, D.row, D.plain, D.plain.plainL, St.close, St.close1, St.borrow, retV, resV, resL, outCL, outC, outL, outD, wantedV, opV, An.mid, thawV, D.plainU, prune, envOf, get, put, eval, evalT, nz, argsV, capsV, ofV, binV, binV.aggV, unV, intV, eqOp, isConst, natV, optV, loadV, loadC, storeV, setC, St.at_, partV, partTy, indexAddrV, fieldAddrV, sliceV, sliceV.rowSl, sliceV.strSl, bounds, cutP, builtinV, lenV, maxL, maxV, appendV, St.elems, roomy, rowOf, rowS, isStr, esz, tdOf, convV, buildV, fillV, partsV, okParts, fillL, D.whole, D.demoteC, D.demote, demoteL, D.global, D.flat, D.leaf, D.cells, TI.agg, TD.rowish, callOpV, moveL, CC, keepB, St.borrowL, St.borrow, D.isLsl, adoptR, adoptC, adoptCL, adoptL, adopt, List.toArray, Array.toList, Nat.reduceEqDiff, Nat.reduceAdd, Nat.reduceSub, Nat.reduceMul, Nat.reduceLeDiff, Nat.reduceLT, reduceIte, reduceCtorEq, forall_const, imp_self, Int.reduceNeg, Int.reduceLT, Int.reduceLE, Int.reduceGT, Int.reduceGE, Int.reduceAdd, Int.reduceSub, Int.reduceMul, Int.reduceToNat, Int.reduceEq, ne_eq, eq_self]
    exact ⟨_, _, rfl, by simp, rfl, _, rfl, rfl, rfl⟩
set_option maxRecDepth 10000 in
theorem run46 (C : Callees) {s t : Nat → Nat} (hs : Wds s) (ht : Wds t) (B : Hp) : runV T C fi46 [sD s, sD t] B = some (sD (bothS s t), B) := by
  rw [e_run _ _ _ rfl]
  simp only [fi46, Tryd.f46, an46, AL, T3, T66, T75, EL, List.replicate_succ, stepD, accs, accP, accW, simpleOp, isAl, isExt, flipD, D.fresh1, D.row, D.plain, D.plain.plainL, St.close, St.close1, St.borrow, retV, resV, resL, outCL, outC, outL, outD, wantedV, opV, An.mid, thawV, D.plainU, prune, envOf, get, put, eval, evalT, nz, argsV, capsV, ofV, binV, binV.aggV, unV, intV, eqOp, isConst, natV, optV, loadV, loadC, storeV, St.at_, partV, partTy, indexAddrV, fieldAddrV, sliceV, sliceV.rowSl, sliceV.strSl, bounds, cutP, builtinV, lenV, maxL, maxV, appendV, St.elems, roomy, rowOf, rowS, isStr, esz, tdOf, convV, buildV, fillV, partsV, okParts, fillL, D.whole, D.demoteC, D.demote, demoteL, D.global, D.flat, D.leaf, D.cells, TI.agg, TD.rowish, callOpV, moveL, CC, keepB, St.borrowL, St.borrow, D.isLsl, adoptR, adoptC, adoptCL, adoptL, adopt, List.toArray, Array.toList, Nat.reduceEqDiff, Nat.reduceAdd, Nat.reduceSub, Nat.reduceMul, Nat.reduceLeDiff, Nat.reduceLT, reduceIte, reduceCtorEq, forall_const, imp_self, Int.reduceNeg, Int.reduceLT, Int.reduceLE, Int.reduceGT, Int.reduceGE, Int.reduceAdd, Int.reduceSub, Int.reduceMul, Int.reduceToNat, Int.reduceEq, ne_eq, eq_self]
  refine' in_loop (c' := lp46_0) (fin T _ _ _) ?h rfl ?q
  case h =>
    refine loop46 C B hs ht _ ?_
    simp only [an46, ren_map, toks_map, boxes_map, st46, upto_0, AL, An.at_, tidyV, tidyW, tidyB, tidyT, sift, envBoxes, envToks, conToks, D.toks, D.tok1, toksL, D.boxes, D.box1, boxesL, memN, posN, renE, D.ren, D.ren1, renL, renB, St.content, St.boxOk, St.tokOk, trues, T3, T66, T75, EL, List.replicate_succ, stepD, accs, accP, accW, simpleOp, isAl, isExt, flipD, D.fresh1, D.row, D.plain, D.plain.plainL, St.close, St.close1, St.borrow, retV, resV, resL, outCL, outC, outL, outD, wantedV, opV, An.mid, thawV, D.plainU, prune, envOf, get, put, eval, evalT, nz, argsV, capsV, ofV, binV, binV.aggV, unV, intV, eqOp, isConst, natV, optV, loadV, loadC, storeV, setC, St.at_, partV, partTy, indexAddrV, fieldAddrV, sliceV, sliceV.rowSl, sliceV.strSl, bounds, cutP, builtinV, lenV, maxL, maxV, appendV, St.elems, roomy, rowOf, rowS, isStr, esz, tdOf, convV, buildV, fillV, partsV, okParts, fillL, D.whole, D.demoteC, D.demote, demoteL, D.global, D.flat, D.leaf, D.cells, TI.agg, TD.rowish, callOpV, moveL, CC, keepB, St.borrowL, St.borrow, D.isLsl, adoptR, adoptC, adoptCL, adoptL, adopt, List.toArray, Array.toList, Nat.reduceEqDiff, Nat.reduceAdd, Nat.reduceSub, Nat.reduceMul, Nat.reduceLeDiff, Nat.reduceLT, reduceIte, reduceCtorEq, forall_const, imp_self, Int.reduceNeg, Int.reduceLT, Int.reduceLE, Int.reduceGT, Int.reduceGE, Int.reduceAdd, Int.reduceSub, Int.reduceMul, Int.reduceToNat, Int.reduceEq, ne_eq, eq_self]
    rfl
  rintro x st' ⟨rfl, ρ, rfl, h1, h2⟩
  simp only [h1, h2, AL, T3, T66, T75, EL, List.replicate_succ, stepD, accs, accP, accW, simpleOp, isAl, isExt, flipD, D.fresh1, D.row, D.plain, D.plain.plainL, St.close, St.close1, St.borrow, retV, resV, resL, outCL, outC, outL, outD, wantedV, opV, An.mid, thawV, D.plainU, prune, envOf, get, put, eval, evalT, nz, argsV, capsV, ofV, binV, binV.aggV, unV, intV, eqOp, isConst, natV, optV, loadV, loadC, storeV, St.at_, partV, partTy, indexAddrV, fieldAddrV, sliceV, sliceV.rowSl, sliceV.strSl, bounds, cutP, builtinV, lenV, maxL, maxV, appendV, St.elems, roomy, rowOf, rowS, isStr, esz, tdOf, convV, buildV, fillV, partsV, okParts, fillL, D.whole, D.demoteC, D.demote, demoteL, D.global, D.flat, D.leaf, D.cells, TI.agg, TD.rowish, callOpV, moveL, CC, keepB, St.borrowL, St.borrow, D.isLsl, adoptR, adoptC, adoptCL, adoptL, adopt, List.toArray, Array.toList, Nat.reduceEqDiff, Nat.reduceAdd, Nat.reduceSub, Nat.reduceMul, Nat.reduceLeDiff, Nat.reduceLT, reduceIte, reduceCtorEq, forall_const, imp_self, Int.reduceNeg, Int.reduceLT, Int.reduceLE, Int.reduceGT, Int.reduceGE, Int.reduceAdd, Int.reduceSub, Int.reduceMul, Int.reduceToNat, Int.reduceEq, ne_eq, eq_self]
theorem c46 (hC : Lib17 C) {s t : Nat → Nat} (hs : Wds s) (ht : Wds t) (B : Hp) : C 46 [.agg (nums .u64 16 s), .agg (nums .u64 16 t)] B = some (.agg (nums .u64 16 (bothS s t)), B) := hC.f46 _ _ _ (run46 C hs ht B)

def st47 (B : Hp) (s t : Nat → Nat) (k : Nat) : St := ⟨[(2, .lptr 0 0), (3, .lptr 1 0), (4, .lptr 2 0), (6, .int .i64 k)], [some (nums .u64 16 (upto (eithS s t) s k)), some (nums .u64 16 t), some (nums .u64 16 noS)], [], B⟩
set_option maxRecDepth 10000 in
theorem loop47 (C : Callees) (B : Hp) {s t : Nat → Nat} (hs : Wds s) (ht : Wds t) (st : St) (hst : an47.at_ (some 2) st = st47 B s t 0) :
    ∃ x st', loopC T an47 C lp47_0 st = some (x, st') ∧ x = .exit 0 ∧ ∃ ρ, st' = ⟨ρ, [some (nums .u64 16 (eithS s t)), some (nums .u64 16 t), some (nums .u64 16 noS)], [], B⟩ ∧ get ρ 2 = .lptr 0 0 ∧ get ρ 4 = .lptr 2 0 := by
  refine loop_rule (st47 B s t) (fun k => k ≤ 16) (fun k => 16 - k) _ ?_ 0 st hst (by omega)
  intro k hk
  rcases Nat.lt_or_ge k 16 with h | h
  · left
    refine ⟨k + 1, ?_, by omega, by omega⟩
    have g0 : (k : Int) < 16 := by omega
    have w1 : IntKind.i64.wrap ((k : Int) + 1) = ((k + 1 : Nat) : Int) := by rw [wrapI (by omega) (by omega)]; rfl
    have n1 := nat0 k
    have g1 := nums_get (k := .u64) (m := upto (eithS s t) s k) h
    rw [upto_at] at g1
    have g2 := nums_get (k := .u64) (m := t) h
    have b1 : bitsV .or .u64 ((s k : Nat) : Int) ((t k : Nat) : Int) = ((eithS s t k : Nat) : Int) := u64_or (s k) (t k) (hs k h) (ht k h)
    have s1 := nums_set (k := .u64) (m := upto (eithS s t) s k) (x := eithS s t k) h
    rw [upto_step] at s1
    simp only [st47, lp47_0, subC, atC, Tryd.f47, an47, g0, w1, n1, h, g1, g2, b1, s1, AL, T3, T66, T75, EL, List.replicate_succ, stepD, accs, accP, accW, simpleOp, isAl, isExt, flipD, D.fresh1, D.row, D.plain, D.plain.plainL, St.close, St.close1, St.borrow, retV, resV, resL, outCL, outC, outL, outD, wantedV, opV, An.mid, thawV, D.plainU, prune, envOf, get, put, eval, evalT, nz, argsV, capsV, ofV, binV, binV.aggV, unV, intV, eqOp, isConst, natV, optV, loadV, loadC, storeV, St.at_, partV, partTy, indexAddrV, fieldAddrV, sliceV, sliceV.rowSl, sliceV.strSl, bounds, cutP, builtinV, lenV, maxL, maxV, appendV, St.elems, roomy, rowOf, rowS, isStr, esz, tdOf, convV, buildV, fillV, partsV, okParts, fillL, D.whole, D.demoteC, D.demote, demoteL, D.global, D.flat, D.leaf, D.cells, TI.agg, TD.rowish, callOpV, moveL, CC, keepB, St.borrowL, St.borrow, D.isLsl, adoptR, adoptC, adoptCL, adoptL, adopt, List.toArray, Array.toList, Nat.reduceEqDiff, Nat.reduceAdd, Nat.reduceSub, Nat.reduceMul, Nat.reduceLeDiff, Nat.reduceLT, reduceIte, reduceCtorEq, forall_const, imp_self, Int.reduceNeg, Int.reduceLT, Int.reduceLE, Int.reduceGT, Int.reduceGE, Int.reduceAdd, Int.reduceSub, Int.reduceMul, Int.reduceToNat, Int.reduceEq, ne_eq, eq_self]
    exact ⟨_, rfl, rfl⟩
  · right
    obtain rfl : k = 16 := by omega
    have g0 : ¬ ((16 : Nat) : Int) < 16 := by omega
    have e := upto_16 (f := eithS s t) (s := s)
    simp only [st47, lp47_0, subC, atC, Tryd.f47, an47, g0, e, T3, T66, T75, EL, List.replicate_succ, stepD, accs, accP, accW, simpleOp, isAl, isExt, flipD, D.fresh1, D.row, D.plain, D.plain.plainL, St.close, St.close1, St.borrow, retV, resV, resL, outCL, outC, outL, outD, wantedV, opV, An.mid, thawV, D.plainU, prune, envOf, get, put, eval, evalT, nz, argsV, capsV, ofV, binV, binV.aggV, unV, intV, eqOp, isConst, natV, optV, loadV, loadC, storeV, setC, St.at_, partV, partTy, indexAddrV, fieldAddrV, sliceV, sliceV.rowSl, sliceV.strSl, bounds, cutP, builtinV, lenV, maxL, maxV, appendV, St.elems, roomy, rowOf, rowS, isStr, esz, tdOf, convV, buildV, fillV, partsV, okParts, fillL, D.whole, D.demoteC, D.demote, demoteL, D.global, D.flat, D.leaf, D.cells, TI.agg, TD.rowish, callOpV, moveL, CC, keepB, St.borrowL, St.borrow, D.isLsl, adoptR, adoptC, adoptCL, adoptL, adopt, List.toArray, Array.toList, Nat.reduceEqDiff, Nat.reduceAdd, Nat.reduceSub, Nat.reduceMul, Nat.reduceLeDiff, Nat.reduceLT, reduceIte, reduceCtorEq, forall_const, imp_self, Int.reduceNeg, Int.reduceLT, Int.reduceLE, Int.reduceGT, Int.reduceGE, Int.reduceAdd, Int.reduceSub, Int.reduceMul, Int.reduceToNat, Int.reduceEq, ne_eq, eq_self]
    exact ⟨_, _, rfl, by simp, rfl, _, rfl, rfl, rfl⟩
set_option maxRecDepth 10000 in
theorem run47 (C : Callees) {s t : Nat → Nat} (hs : Wds s) (ht : Wds t) (B : Hp) : runV T C fi47 [sD s, sD t] B = some (sD (eithS s t), B) := by
  rw [e_run _ _ _ rfl]
  simp only [fi47, Tryd.f47, an47, AL, T3, T66, T75, EL, List.replicate_succ, stepD, accs, accP, accW, simpleOp, isAl, isExt, flipD, D.fresh1, D.row, D.plain, D.plain.plainL, St.close, St.close1, St.borrow, retV, resV, resL, outCL, outC, outL, outD, wantedV, opV, An.mid, thawV, D.plainU, prune, envOf, get, put, eval, evalT, nz, argsV, capsV, ofV, binV, binV.aggV, unV, intV, eqOp, isConst, natV, optV, loadV, loadC, storeV, St.at_, partV, partTy, indexAddrV, fieldAddrV, sliceV, sliceV.rowSl, sliceV.strSl, bounds, cutP, builtinV, lenV, maxL, maxV, appendV, St.elems, roomy, rowOf, rowS, isStr, esz, tdOf, convV, buildV, fillV, partsV, okParts, fillL, D.whole, D.demoteC, D.demote, demoteL, D.global, D.flat, D.leaf, D.cells, TI.agg, TD.rowish, callOpV, moveL, CC, keepB, St.borrowL, St.borrow, D.isLsl, adoptR, adoptC, adoptCL, adoptL, adopt, List.toArray, Array.toList, Nat.reduceEqDiff, Nat.reduceAdd, Nat.reduceSub, Nat.reduceMul, Nat.reduceLeDiff, Nat.reduceLT, reduceIte, reduceCtorEq, forall_const, imp_self, Int.reduceNeg, Int.reduceLT, Int.reduceLE, Int.reduceGT, Int.reduceGE, Int.reduceAdd, Int.reduceSub, Int.reduceMul, Int.reduceToNat, Int.reduceEq, ne_eq, eq_self]
  refine' in_loop (c' := lp47_0) (fin T _ _ _) ?h rfl ?q
  case h =>
    refine loop47 C B hs ht _ ?_
    simp only [an47, ren_map, toks_map, boxes_map, st47, upto_0, AL, An.at_, tidyV, tidyW, tidyB, tidyT, sift, envBoxes, envToks, conToks, D.toks, D.tok1, toksL, D.boxes, D.box1, boxesL, memN, posN, renE, D.ren, D.ren1, renL, renB, St.content, St.boxOk, St.tokOk, trues, T3, T66, T75, EL, List.replicate_succ, stepD, accs, accP, accW, simpleOp, isAl, isExt, flipD, D.fresh1, D.row, D.plain, D.plain.plainL, St.close, St.close1, St.borrow, retV, resV, resL, outCL, outC, outL, outD, wantedV, opV, An.mid, thawV, D.plainU, prune, envOf, get, put, eval, evalT, nz, argsV, capsV, ofV, binV, binV.aggV, unV, intV, eqOp, isConst, natV, optV, loadV, loadC, storeV, setC, St.at_, partV, partTy, indexAddrV, fieldAddrV, sliceV, sliceV.rowSl, sliceV.strSl, bounds, cutP, builtinV, lenV, maxL, maxV, appendV, St.elems, roomy, rowOf, rowS, isStr, esz, tdOf, convV, buildV, fillV, partsV, okParts, fillL, D.whole, D.demoteC, D.demote, demoteL, D.global, D.flat, D.leaf, D.cells, TI.agg, TD.rowish, callOpV, moveL, CC, keepB, St.borrowL, St.borrow, D.isLsl, adoptR, adoptC, adoptCL, adoptL, adopt, List.toArray, Array.toList, Nat.reduceEqDiff, Nat.reduceAdd, Nat.reduceSub, Nat.reduceMul, Nat.reduceLeDiff, Nat.reduceLT, reduceIte, reduceCtorEq, forall_const, imp_self, Int.reduceNeg, Int.reduceLT, Int.reduceLE, Int.reduceGT, Int.reduceGE, Int.reduceAdd, Int.reduceSub, Int.reduceMul, Int.reduceToNat, Int.reduceEq, ne_eq, eq_self]
    rfl
  rintro x st' ⟨rfl, ρ, rfl, h1, h2⟩
  simp only [h1, h2, AL, T3, T66, T75, EL, List.replicate_succ, stepD, accs, accP, accW, simpleOp, isAl, isExt, flipD, D.fresh1, D.row, D.plain, D.plain.plainL, St.close, St.close1, St.borrow, retV, resV, resL, outCL, outC, outL, outD, wantedV, opV, An.mid, thawV, D.plainU, prune, envOf, get, put, eval, evalT, nz, argsV, capsV, ofV, binV, binV.aggV, unV, intV, eqOp, isConst, natV, optV, loadV, loadC, storeV, St.at_, partV, partTy, indexAddrV, fieldAddrV, sliceV, sliceV.rowSl, sliceV.strSl, bounds, cutP, builtinV, lenV, maxL, maxV, appendV, St.elems, roomy, rowOf, rowS, isStr, esz, tdOf, convV, buildV, fillV, partsV, okParts, fillL, D.whole, D.demoteC, D.demote, demoteL, D.global, D.flat, D.leaf, D.cells, TI.agg, TD.rowish, callOpV, moveL, CC, keepB, St.borrowL, St.borrow, D.isLsl, adoptR, adoptC, adoptCL, adoptL, adopt, List.toArray, Array.toList, Nat.reduceEqDiff, Nat.reduceAdd, Nat.reduceSub, Nat.reduceMul, Nat.reduceLeDiff, Nat.reduceLT, reduceIte, reduceCtorEq, forall_const, imp_self, Int.reduceNeg, Int.reduceLT, Int.reduceLE, Int.reduceGT, Int.reduceGE, Int.reduceAdd, Int.reduceSub, Int.reduceMul, Int.reduceToNat, Int.reduceEq, ne_eq, eq_self]
theorem c47 (hC : Lib17 C) {s t : Nat → Nat} (hs : Wds s) (ht : Wds t) (B : Hp) : C 47 [.agg (nums .u64 16 s), .agg (nums .u64 16 t)] B = some (.agg (nums .u64 16 (eithS s t)), B) := hC.f47 _ _ _ (run47 C hs ht B)

def st48 (B : Hp) (s t : Nat → Nat) (k : Nat) : St := ⟨[(2, .lptr 0 0), (3, .lptr 1 0), (4, .lptr 2 0), (6, .int .i64 k)], [some (nums .u64 16 (upto (lessS s t) s k)), some (nums .u64 16 t), some (nums .u64 16 noS)], [], B⟩
set_option maxRecDepth 10000 in
theorem loop48 (C : Callees) (B : Hp) {s t : Nat → Nat} (hs : Wds s) (ht : Wds t) (st : St) (hst : an48.at_ (some 2) st = st48 B s t 0) :
    ∃ x st', loopC T an48 C lp48_0 st = some (x, st') ∧ x = .exit 0 ∧ ∃ ρ, st' = ⟨ρ, [some (nums .u64 16 (lessS s t)), some (nums .u64 16 t), some (nums .u64 16 noS)], [], B⟩ ∧ get ρ 2 = .lptr 0 0 ∧ get ρ 4 = .lptr 2 0 := by
  refine loop_rule (st48 B s t) (fun k => k ≤ 16) (fun k => 16 - k) _ ?_ 0 st hst (by omega)
  intro k hk
  rcases Nat.lt_or_ge k 16 with h | h
  · left
    refine ⟨k + 1, ?_, by omega, by omega⟩
    have g0 : (k : Int) < 16 := by omega
    have w1 : IntKind.i64.wrap ((k : Int) + 1) = ((k + 1 : Nat) : Int) := by rw [wrapI (by omega) (by omega)]; rfl
    have n1 := nat0 k
    have g1 := nums_get (k := .u64) (m := upto (lessS s t) s k) h
    rw [upto_at] at g1
    have g2 := nums_get (k := .u64) (m := t) h
    have b1 : bitsV .andNot .u64 ((s k : Nat) : Int) ((t k : Nat) : Int) = ((lessS s t k : Nat) : Int) := u64_andn (hs k h) (ht k h)
    have s1 := nums_set (k := .u64) (m := upto (lessS s t) s k) (x := lessS s t k) h
    rw [upto_step] at s1
    simp only [st48, lp48_0, subC, atC, Tryd.f48, an48, g0, w1, n1, h, g1, g2, b1, s1, AL, T3, T66, T75, EL, List.replicate_succ, stepD, accs, accP, accW, simpleOp, isAl, isExt, flipD, D.fresh1, D.row, D.plain, D.plain.plainL, St.close, St.close1, St.borrow, retV, resV, resL, outCL, outC, outL, outD, wantedV, opV, An.mid, thawV, D.plainU, prune, envOf, get, put, eval, evalT, nz, argsV, capsV, ofV, binV, binV.aggV, unV, intV, eqOp, isConst, natV, optV, loadV, loadC, storeV, St.at_, partV, partTy, indexAddrV, fieldAddrV, sliceV, sliceV.rowSl, sliceV.strSl, bounds, cutP, builtinV, lenV, maxL, maxV, appendV, St.elems, roomy, rowOf, rowS, isStr, esz, tdOf, convV, buildV, fillV, partsV, okParts, fillL, D.whole, D.demoteC, D.demote, demoteL, D.global, D.flat, D.leaf, D.cells, TI.agg, TD.rowish, callOpV, moveL, CC, keepB, St.borrowL, St.borrow, D.isLsl, adoptR, adoptC, adoptCL, adoptL, adopt, List.toArray, Array.toList, Nat.reduceEqDiff, Nat.reduceAdd, Nat.reduceSub, Nat.reduceMul, Nat.reduceLeDiff, Nat.reduceLT, reduceIte, reduceCtorEq, forall_const, imp_self, Int.reduceNeg, Int.reduceLT, Int.reduceLE, Int.reduceGT, Int.reduceGE, Int.reduceAdd, Int.reduceSub, Int.reduceMul, Int.reduceToNat, Int.reduceEq, ne_eq, eq_self]
    exact ⟨_, rfl, rfl⟩
  · right
    obtain rfl : k = 16 := by omega
    have g0 : ¬ ((16 : Nat) : Int) < 16 := by omega
    have e := upto_16 (f := lessS s t) (s := s)
    simp only [st48, lp48_0, subC, atC, Tryd.f48, an48, g0, e, T3, T66, T75, EL, List.replicate_succ, stepD, accs, accP, accW, simpleOp, isAl, isExt, flipD, D.fresh1, D.row, D.plain, D.plain.plainL, St.close, St.close1, St.borrow, retV, resV, resL, outCL, outC, outL, outD, wantedV, opV, An.mid, thawV, D.plainU, prune, envOf, get, put, eval, evalT, nz, argsV, capsV, ofV, binV, binV.aggV, unV, intV, eqOp, isConst, natV, optV, loadV, loadC, storeV, setC, St.at_, partV, partTy, indexAddrV, fieldAddrV, sliceV, sliceV.rowSl, sliceV.strSl, bounds, cutP, builtinV, lenV, maxL, maxV, appendV, St.elems, roomy, rowOf, rowS, isStr, esz, tdOf, convV, buildV, fillV, partsV, okParts, fillL, D.whole, D.demoteC, D.demote, demoteL, D.global, D.flat, D.leaf, D.cells, TI.agg, TD.rowish, callOpV, moveL, CC, keepB, St.borrowL, St.borrow, D.isLsl, adoptR, adoptC, adoptCL, adoptL, adopt, List.toArray, Array.toList, Nat.reduceEqDiff, Nat.reduceAdd, Nat.reduceSub, Nat.reduceMul, Nat.reduceLeDiff, Nat.reduceLT, reduceIte, reduceCtorEq, forall_const, imp_self, Int.reduceNeg, Int.reduceLT, Int.reduceLE, Int.reduceGT, Int.reduceGE, Int.reduceAdd, Int.reduceSub, Int.reduceMul, Int.reduceToNat, Int.reduceEq, ne_eq, eq_self]
    exact ⟨_, _, rfl, by simp, rfl, _, rfl, rfl, rfl⟩
set_option maxRecDepth 10000 in
theorem run48 (C : Callees) {s t : Nat → Nat} (hs : Wds s) (ht : Wds t) (B : Hp) : runV T C fi48 [sD s, sD t] B = some (sD (lessS s t), B) := by
  rw [e_run _ _ _ rfl]
  simp only [fi48, Tryd.f48, an48, AL, T3, T66, T75, EL, List.replicate_succ, stepD, accs, accP, accW, simpleOp, isAl, isExt, flipD, D.fresh1, D.row, D.plain, D.plain.plainL, St.close, St.close1, St.borrow, retV, resV, resL, outCL, outC, outL, outD, wantedV, opV, An.mid, thawV, D.plainU, prune, envOf, get, put, eval, evalT, nz, argsV, capsV, ofV, binV, binV.aggV, unV, intV, eqOp, isConst, natV, optV, loadV, loadC, storeV, St.at_, partV, partTy, indexAddrV, fieldAddrV, sliceV, sliceV.rowSl, sliceV.strSl, bounds, cutP, builtinV, lenV, maxL, maxV, appendV, St.elems, roomy, rowOf, rowS, isStr, esz, tdOf, convV, buildV, fillV, partsV, okParts, fillL, D.whole, D.demoteC, D.demote, demoteL, D.global, D.flat, D.leaf, D.cells, TI.agg, TD.rowish, callOpV, moveL, CC, keepB, St.borrowL, St.borrow, D.isLsl, adoptR, adoptC, adoptCL, adoptL, adopt, List.toArray, Array.toList, Nat.reduceEqDiff, Nat.reduceAdd, Nat.reduceSub, Nat.reduceMul, Nat.reduceLeDiff, Nat.reduceLT, reduceIte, reduceCtorEq, forall_const, imp_self, Int.reduceNeg, Int.reduceLT, Int.reduceLE, Int.reduceGT, Int.reduceGE, Int.reduceAdd, Int.reduceSub, Int.reduceMul, Int.reduceToNat, Int.reduceEq, ne_eq, eq_self]
  refine' in_loop (c' := lp48_0) (fin T _ _ _) ?h rfl ?q
  case h =>
    refine loop48 C B hs ht _ ?_
    simp only [an48, ren_map, toks_map, boxes_map, st48, upto_0, AL, An.at_, tidyV, tidyW, tidyB, tidyT, sift, envBoxes, envToks, conToks, D.toks, D.tok1, toksL, D.boxes, D.box1, boxesL, memN, posN, renE, D.ren, D.ren1, renL, renB, St.content, St.boxOk, St.tokOk, trues, T3, T66, T75, EL, List.replicate_succ, stepD, accs, accP, accW, simpleOp, isAl, isExt, flipD, D.fresh1, D.row, D.plain, D.plain.plainL, St.close, St.close1, St.borrow, retV, resV, resL, outCL, outC, outL, outD, wantedV, opV, An.mid, thawV, D.plainU, prune, envOf, get, put, eval, evalT, nz, argsV, capsV, ofV, binV, binV.aggV, unV, intV, eqOp, isConst, natV, optV, loadV, loadC, storeV, setC, St.at_, partV, partTy, indexAddrV, fieldAddrV, sliceV, sliceV.rowSl, sliceV.strSl, bounds, cutP, builtinV, lenV, maxL, maxV, appendV, St.elems, roomy, rowOf, rowS, isStr, esz, tdOf, convV, buildV, fillV, partsV, okParts, fillL, D.whole, D.demoteC, D.demote, demoteL, D.global, D.flat, D.leaf, D.cells, TI.agg, TD.rowish, callOpV, moveL, CC, keepB, St.borrowL, St.borrow, D.isLsl, adoptR, adoptC, adoptCL, adoptL, adopt, List.toArray, Array.toList, Nat.reduceEqDiff, Nat.reduceAdd, Nat.reduceSub, Nat.reduceMul, Nat.reduceLeDiff, Nat.reduceLT, reduceIte, reduceCtorEq, forall_const, imp_self, Int.reduceNeg, Int.reduceLT, Int.reduceLE, Int.reduceGT, Int.reduceGE, Int.reduceAdd, Int.reduceSub, Int.reduceMul, Int.reduceToNat, Int.reduceEq, ne_eq, eq_self]
    rfl
  rintro x st' ⟨rfl, ρ, rfl, h1, h2⟩
  simp only [h1, h2, AL, T3, T66, T75, EL, List.replicate_succ, stepD, accs, accP, accW, simpleOp, isAl, isExt, flipD, D.fresh1, D.row, D.plain, D.plain.plainL, St.close, St.close1, St.borrow, retV, resV, resL, outCL, outC, outL, outD, wantedV, opV, An.mid, thawV, D.plainU, prune, envOf, get, put, eval, evalT, nz, argsV, capsV, ofV, binV, binV.aggV, unV, intV, eqOp, isConst, natV, optV, loadV, loadC, storeV, St.at_, partV, partTy, indexAddrV, fieldAddrV, sliceV, sliceV.rowSl, sliceV.strSl, bounds, cutP, builtinV, lenV, maxL, maxV, appendV, St.elems, roomy, rowOf, rowS, isStr, esz, tdOf, convV, buildV, fillV, partsV, okParts, fillL, D.whole, D.demoteC, D.demote, demoteL, D.global, D.flat, D.leaf, D.cells, TI.agg, TD.rowish, callOpV, moveL, CC, keepB, St.borrowL, St.borrow, D.isLsl, adoptR, adoptC, adoptCL, adoptL, adopt, List.toArray, Array.toList, Nat.reduceEqDiff, Nat.reduceAdd, Nat.reduceSub, Nat.reduceMul, Nat.reduceLeDiff, Nat.reduceLT, reduceIte, reduceCtorEq, forall_const, imp_self, Int.reduceNeg, Int.reduceLT, Int.reduceLE, Int.reduceGT, Int.reduceGE, Int.reduceAdd, Int.reduceSub, Int.reduceMul, Int.reduceToNat, Int.reduceEq, ne_eq, eq_self]
theorem c48 (hC : Lib17 C) {s t : Nat → Nat} (hs : Wds s) (ht : Wds t) (B : Hp) : C 48 [.agg (nums .u64 16 s), .agg (nums .u64 16 t)] B = some (.agg (nums .u64 16 (lessS s t)), B) := hC.f48 _ _ _ (run48 C hs ht B)


end Go.Proofs.YtbbbhalmlboapaaDoor.V
