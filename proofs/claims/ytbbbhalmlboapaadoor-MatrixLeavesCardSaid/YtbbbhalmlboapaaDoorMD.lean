/-
Layer 31: what the document's functions compute.
-/
import Derived.Test.YtbbbhalmlboapaaDoorMC
namespace Go.Proofs.YtbbbhalmlboapaaDoor.V
open Go Go.RowKit
set_option linter.unusedSimpArgs false
set_option linter.unusedVariables false

/-! warren/warrenref31.place -/
def an67 : An := ⟨fun _ => .none, fun _ => 0, fun _ => false, fun _ => .none⟩
noncomputable def fi67 : FI := ⟨1, 9, Tryd.f67.body.getD .skip, Tryd.f67.results.toList, an67, false, false⟩
theorem ok67 : FnOk Tryd.prog 67 fi67 := ⟨⟨Tryd.f67, Tryd.func67, by kernel_rfl, rfl, rfl, rfl⟩, by decide, by kernel_rfl, fun h => by cases h⟩
/-! warren/warrenref31.Of -/
def an35 : An := ⟨fun | 3 => some [1, 2, 3, 4] | 7 => some [1, 2, 3, 4, 5, 6] | _ => .none, fun _ => 0, fun _ => false, fun _ => .none⟩
noncomputable def fi35 : FI := ⟨1, 28, Tryd.f35.body.getD .skip, Tryd.f35.results.toList, an35, false, false⟩
theorem ok35 : FnOk Tryd.prog 35 fi35 := ⟨⟨Tryd.f35, Tryd.func35, by kernel_rfl, rfl, rfl, rfl⟩, by decide, by kernel_rfl, fun h => by cases h⟩
noncomputable def lp35_0 : Code := subC [1, 1, 0, 1, 0, 0] (Tryd.f35.body.getD .skip)   -- head 3 keep [1, 2, 3, 4]
noncomputable def lp35_1 : Code := subC [1, 1, 0, 1, 0, 0, 1, 0, 0, 1, 1, 0, 0] (Tryd.f35.body.getD .skip)   -- head 7 keep [1, 2, 3, 4, 5, 6]
/-! warren/warrenref31.To -/
def an68 : An := ⟨fun | 3 => some [1, 2, 3, 4] | 6 => some [1, 2, 3, 4, 5] | _ => .none, fun _ => 0, fun _ => false, fun _ => .none⟩
noncomputable def fi68 : FI := ⟨1, 31, Tryd.f68.body.getD .skip, Tryd.f68.results.toList, an68, false, false⟩
theorem ok68 : FnOk Tryd.prog 68 fi68 := ⟨⟨Tryd.f68, Tryd.func68, by kernel_rfl, rfl, rfl, rfl⟩, by decide, by kernel_rfl, fun h => by cases h⟩
noncomputable def lp68_0 : Code := subC [1, 1, 0, 1, 0, 0] (Tryd.f68.body.getD .skip)   -- head 3 keep [1, 2, 3, 4]
noncomputable def lp68_1 : Code := subC [1, 1, 0, 1, 0, 0, 1, 0, 0, 1, 0, 0] (Tryd.f68.body.getD .skip)   -- head 6 keep [1, 2, 3, 4, 5]
/-! warren/warrenref31.May -/
def an34 : An := ⟨fun | 3 => some [3, 4] | 6 => some [3, 4, 5] | _ => .none, fun _ => 0, fun _ => false, fun _ => .none⟩
noncomputable def fi34 : FI := ⟨1, 34, Tryd.f34.body.getD .skip, Tryd.f34.results.toList, an34, false, false⟩
theorem ok34 : FnOk Tryd.prog 34 fi34 := ⟨⟨Tryd.f34, Tryd.func34, by kernel_rfl, rfl, rfl, rfl⟩, by decide, by kernel_rfl, fun h => by cases h⟩
noncomputable def lp34_0 : Code := subC [1, 1, 0, 1, 0, 0] (Tryd.f34.body.getD .skip)   -- head 3 keep [3, 4]
noncomputable def lp34_1 : Code := subC [1, 1, 0, 1, 0, 0, 1, 0, 0, 1, 0, 0] (Tryd.f34.body.getD .skip)   -- head 6 keep [3, 4, 5]
/-! warren/warrenref31.Set -/
def an25 : An := ⟨fun _ => .none, fun _ => 0, fun _ => false, fun _ => .none⟩
noncomputable def fi25 : FI := ⟨4, 44, Tryd.f25.body.getD .skip, Tryd.f25.results.toList, an25, false, false⟩
theorem ok25 : FnOk Tryd.prog 25 fi25 := ⟨⟨Tryd.f25, Tryd.func25, by kernel_rfl, rfl, rfl, rfl⟩, by decide, by kernel_rfl, fun h => by cases h⟩
/-! warren/warrenref31.Sees -/
def an32 : An := ⟨fun _ => .none, fun _ => 0, fun _ => false, fun _ => .none⟩
noncomputable def fi32 : FI := ⟨3, 33, Tryd.f32.body.getD .skip, Tryd.f32.results.toList, an32, false, false⟩
theorem ok32 : FnOk Tryd.prog 32 fi32 := ⟨⟨Tryd.f32, Tryd.func32, by kernel_rfl, rfl, rfl, rfl⟩, by decide, by kernel_rfl, fun h => by cases h⟩
/-! warren/warrenref31.Group -/
def an28 : An := ⟨fun | 7 => some [4, 6, 7, 8] | 10 => some [4, 6, 7, 8, 9] | 13 => some [4, 6, 7, 8, 9, 10] | _ => .none, fun _ => 0, fun _ => false, fun _ => .none⟩
noncomputable def fi28 : FI := ⟨2, 54, Tryd.f28.body.getD .skip, Tryd.f28.results.toList, an28, false, false⟩
theorem ok28 : FnOk Tryd.prog 28 fi28 := ⟨⟨Tryd.f28, Tryd.func28, by kernel_rfl, rfl, rfl, rfl⟩, by decide, by kernel_rfl, fun h => by cases h⟩
noncomputable def lp28_0 : Code := subC [1, 1, 1, 1, 1, 0, 1, 0, 0] (Tryd.f28.body.getD .skip)   -- head 7 keep [4, 6, 7, 8]
noncomputable def lp28_1 : Code := subC [1, 1, 1, 1, 1, 0, 1, 0, 0, 1, 0, 0, 1, 0, 0] (Tryd.f28.body.getD .skip)   -- head 10 keep [4, 6, 7, 8, 9]
noncomputable def lp28_2 : Code := subC [1, 1, 1, 1, 1, 0, 1, 0, 0, 1, 0, 0, 1, 0, 0, 1, 0, 0, 1, 0, 0] (Tryd.f28.body.getD .skip)   -- head 13 keep [4, 6, 7, 8, 9, 10]
structure Ref31 (C : Callees) : Prop extends Lib31 C where
  f67 : Has T C 67 fi67
  f35 : Has T C 35 fi35
  f68 : Has T C 68 fi68
  f34 : Has T C 34 fi34
  f25 : Has T C 25 fi25
  f32 : Has T C 32 fi32
  f28 : Has T C 28 fi28

variable {C : Callees}

set_option maxRecDepth 10000 in
theorem run67 (C : Callees) (a : Int) (B : Hp) : runV T C fi67 [.int .i64 a] B = some (.bool (plc a), B) := by
  rw [e_run _ _ _ rfl]
  unfold plc
  by_cases h1 : 0 ≤ a
  · have g1 : a ≥ 0 := h1
    by_cases h2 : a < 16
    · have g2 : a ≤ 15 := by omega
      simp only [fi67, Tryd.f67, an67, g1, h1, h2, g2, T3, EL, List.replicate_succ, stepD, accs, accP, accW, simpleOp, isAl, isExt, flipD, D.fresh1, D.row, D.plain, D.plain.plainL, St.close, St.close1, St.borrow, retV, resV, resL, outCL, outC, outL, outD, wantedV, opV, An.mid, thawV, D.plainU, prune, envOf, get, put, eval, evalT, nz, argsV, capsV, ofV, binV, binV.aggV, unV, intV, eqOp, isConst, natV, optV, loadV, loadC, storeV, setC, St.at_, partV, partTy, indexAddrV, fieldAddrV, sliceV, sliceV.rowSl, sliceV.strSl, bounds, cutP, builtinV, lenV, maxL, maxV, appendV, St.elems, roomy, rowOf, rowS, isStr, esz, tdOf, convV, buildV, fillV, partsV, okParts, fillL, D.whole, D.demoteC, D.demote, demoteL, D.global, D.flat, D.leaf, D.cells, TI.agg, TD.rowish, callOpV, moveL, CC, keepB, St.borrowL, St.borrow, D.isLsl, adoptR, adoptC, adoptCL, adoptL, adopt, List.toArray, Array.toList, Nat.reduceEqDiff, Nat.reduceAdd, Nat.reduceSub, Nat.reduceMul, Nat.reduceLeDiff, Nat.reduceLT, reduceIte, reduceCtorEq, forall_const, imp_self, Int.reduceNeg, Int.reduceLT, Int.reduceLE, Int.reduceGT, Int.reduceGE, Int.reduceAdd, Int.reduceSub, Int.reduceMul, Int.reduceToNat, Int.reduceEq, ne_eq, eq_self]
    · have g2 : ¬ a ≤ 15 := by omega
      simp only [fi67, Tryd.f67, an67, g1, h1, h2, g2, T3, EL, List.replicate_succ, stepD, accs, accP, accW, simpleOp, isAl, isExt, flipD, D.fresh1, D.row, D.plain, D.plain.plainL, St.close, St.close1, St.borrow, retV, resV, resL, outCL, outC, outL, outD, wantedV, opV, An.mid, thawV, D.plainU, prune, envOf, get, put, eval, evalT, nz, argsV, capsV, ofV, binV, binV.aggV, unV, intV, eqOp, isConst, natV, optV, loadV, loadC, storeV, setC, St.at_, partV, partTy, indexAddrV, fieldAddrV, sliceV, sliceV.rowSl, sliceV.strSl, bounds, cutP, builtinV, lenV, maxL, maxV, appendV, St.elems, roomy, rowOf, rowS, isStr, esz, tdOf, convV, buildV, fillV, partsV, okParts, fillL, D.whole, D.demoteC, D.demote, demoteL, D.global, D.flat, D.leaf, D.cells, TI.agg, TD.rowish, callOpV, moveL, CC, keepB, St.borrowL, St.borrow, D.isLsl, adoptR, adoptC, adoptCL, adoptL, adopt, List.toArray, Array.toList, Nat.reduceEqDiff, Nat.reduceAdd, Nat.reduceSub, Nat.reduceMul, Nat.reduceLeDiff, Nat.reduceLT, reduceIte, reduceCtorEq, forall_const, imp_self, Int.reduceNeg, Int.reduceLT, Int.reduceLE, Int.reduceGT, Int.reduceGE, Int.reduceAdd, Int.reduceSub, Int.reduceMul, Int.reduceToNat, Int.reduceEq, ne_eq, eq_self]
  · have g1 : ¬ a ≥ 0 := h1
    simp only [fi67, Tryd.f67, an67, g1, h1, T3, EL, List.replicate_succ, stepD, accs, accP, accW, simpleOp, isAl, isExt, flipD, D.fresh1, D.row, D.plain, D.plain.plainL, St.close, St.close1, St.borrow, retV, resV, resL, outCL, outC, outL, outD, wantedV, opV, An.mid, thawV, D.plainU, prune, envOf, get, put, eval, evalT, nz, argsV, capsV, ofV, binV, binV.aggV, unV, intV, eqOp, isConst, natV, optV, loadV, loadC, storeV, setC, St.at_, partV, partTy, indexAddrV, fieldAddrV, sliceV, sliceV.rowSl, sliceV.strSl, bounds, cutP, builtinV, lenV, maxL, maxV, appendV, St.elems, roomy, rowOf, rowS, isStr, esz, tdOf, convV, buildV, fillV, partsV, okParts, fillL, D.whole, D.demoteC, D.demote, demoteL, D.global, D.flat, D.leaf, D.cells, TI.agg, TD.rowish, callOpV, moveL, CC, keepB, St.borrowL, St.borrow, D.isLsl, adoptR, adoptC, adoptCL, adoptL, adopt, List.toArray, Array.toList, Nat.reduceEqDiff, Nat.reduceAdd, Nat.reduceSub, Nat.reduceMul, Nat.reduceLeDiff, Nat.reduceLT, reduceIte, reduceCtorEq, forall_const, imp_self, Int.reduceNeg, Int.reduceLT, Int.reduceLE, Int.reduceGT, Int.reduceGE, Int.reduceAdd, Int.reduceSub, Int.reduceMul, Int.reduceToNat, Int.reduceEq, ne_eq, eq_self]
theorem c67 (hC : Ref31 C) (a : Int) (B : Hp) : C 67 [.int .i64 a] B = some (.bool (plc a), B) := hC.f67 _ _ _ (run67 C a B)

/-! ### Of -/
abbrev tD (t : Nat → Bool) : D := .agg (bools 256 t)
def ofK (m : Nat → Nat) (p : Nat) : Nat → Bool := fun k => decide (k < p) && ofS m k
theorem ofK_step (m : Nat → Nat) (p : Nat) : updA (ofK m p) p (ofS m p) = ofK m (p + 1) := by
  funext k
  unfold updA ofK
  by_cases e : k = p
  · subst e; simp
  · rw [if_neg e, show decide (k < p + 1) = decide (k < p) from decide_eq_decide.2 (by omega)]
theorem ofK_end (m : Nat → Nat) : bools 256 (ofK m 256) = bools 256 (ofS m) := bools_ext fun i hi => by unfold ofK; simp [hi]
theorem ofK_0 (m : Nat → Nat) : (fun _ => false) = ofK m 0 := by funext k; unfold ofK; simp

theorem tbit {v b : Nat} : (((v / 2 ^ b : Nat) : Int).tmod 2 = 1) = (v.testBit b = true) := by
  rw [tmod2, Nat.testBit_eq_decide_div_mod_eq, decide_eq_true_eq]
  exact propext ⟨fun h => by omega, fun h => by omega⟩

abbrev offs : Nat → Bool := fun _ => false
def st35 (B : Hp) (m : Nat → Nat) (a : Nat) : St := ⟨[(1, .lptr 0 0), (2, .lptr 1 0), (3, .lptr 2 0), (4, .int .i64 a)], [some (nums .u16 16 m), some (bools 256 offs), some (bools 256 (ofK m (a * 16)))], [], B⟩
def st35_1 (B : Hp) (m : Nat → Nat) (a b : Nat) : St := ⟨[(1, .lptr 0 0), (2, .lptr 1 0), (3, .lptr 2 0), (4, .int .i64 a), (5, .int .u16 (m a / 2 ^ b : Nat)), (6, .int .i64 b)], [some (nums .u16 16 m), some (bools 256 offs), some (bools 256 (ofK m (a * 16 + b)))], [], B⟩

set_option maxRecDepth 10000 in
theorem loop35_1 (C : Callees) (B : Hp) {m : Nat → Nat} (hm : Bnd m) {a : Nat} (ha : a < 16) (st : St) (hst : an35.at_ (some 7) st = st35_1 B m a 0) :
    ∃ x st', loopC T an35 C lp35_1 st = some (x, st') ∧ x = .exit 2 ∧ ∃ ρ, st' = ⟨ρ, [some (nums .u16 16 m), some (bools 256 offs), some (bools 256 (ofK m (a * 16 + 16)))], [], B⟩ ∧ get ρ 1 = .lptr 0 0 ∧ get ρ 2 = .lptr 1 0 ∧ get ρ 3 = .lptr 2 0 ∧ get ρ 4 = .int .i64 a := by
  refine loop_rule (st35_1 B m a) (fun b => b ≤ 16) (fun b => 16 - b) _ ?_ 0 st hst (by omega)
  intro b hb
  rcases Nat.lt_or_ge b 16 with h | h
  · left
    refine ⟨b + 1, ?_, by omega, by omega⟩
    have g0 : (b : Int) < 16 := by omega
    have w1 : IntKind.i64.wrap ((b : Int) + 1) = ((b + 1 : Nat) : Int) := by rw [wrapI (by omega) (by omega)]; rfl
    have n1 := nat0 a
    have n2 := nat0 b
    have hp : a * 16 + b < 256 := by omega
    have hv : m a / 2 ^ b < 65536 := Nat.lt_of_le_of_lt (Nat.div_le_self _ _) (hm a ha)
    have z1 := tbit (v := m a) (b := b)
    have s1 := bools_set (n := 256) (p := ofK m (a * 16 + b)) (a := a * 16 + b) (x := (m a).testBit b) hp
    rw [show (m a).testBit b = ofS m (a * 16 + b) from (ofS_at h).symm, ofK_step] at s1
    rw [ofS_at h, tb] at s1
    have d1 := tdiv2 (m a / 2 ^ b)
    rw [Nat.div_div_eq_div_mul, ← Nat.pow_succ] at d1
    have w2 : IntKind.u16.wrap ((m a / 2 ^ (b + 1) : Nat) : Int) = ((m a / 2 ^ (b + 1) : Nat) : Int) := wrap_u16 (Int.natCast_nonneg _) (Int.ofNat_lt.2 (Nat.lt_of_le_of_lt (Nat.div_le_self _ _) (hm a ha)))
    simp only [st35_1, lp35_1, subC, atC, Tryd.f35, an35, g0, w1, n1, n2, ha, h, hp, z1, s1, d1, w2, Bool.decide_eq_true, AL, T3, T4, T39, T40, T49, T57, EL, List.replicate_succ, stepD, accs, accP, accW, simpleOp, isAl, isExt, flipD, D.fresh1, D.row, D.plain, D.plain.plainL, St.close, St.close1, St.borrow, retV, resV, resL, outCL, outC, outL, outD, wantedV, opV, An.mid, thawV, D.plainU, prune, envOf, get, put, eval, evalT, nz, argsV, capsV, ofV, binV, binV.aggV, unV, intV, eqOp, isConst, natV, optV, loadV, loadC, storeV, St.at_, partV, partTy, indexAddrV, fieldAddrV, sliceV, sliceV.rowSl, sliceV.strSl, bounds, cutP, builtinV, lenV, maxL, maxV, appendV, St.elems, roomy, rowOf, rowS, isStr, esz, tdOf, convV, buildV, fillV, partsV, okParts, fillL, D.whole, D.demoteC, D.demote, demoteL, D.global, D.flat, D.leaf, D.cells, TI.agg, TD.rowish, callOpV, moveL, CC, keepB, St.borrowL, St.borrow, D.isLsl, adoptR, adoptC, adoptCL, adoptL, adopt, List.toArray, Array.toList, Nat.reduceEqDiff, Nat.reduceAdd, Nat.reduceSub, Nat.reduceMul, Nat.reduceLeDiff, Nat.reduceLT, reduceIte, reduceCtorEq, forall_const, imp_self, Int.reduceNeg, Int.reduceLT, Int.reduceLE, Int.reduceGT, Int.reduceGE, Int.reduceAdd, Int.reduceSub, Int.reduceMul, Int.reduceToNat, Int.reduceEq, ne_eq, eq_self]
    exact ⟨_, rfl, rfl⟩
  · right
    obtain rfl : b = 16 := by omega
    have g0 : ¬ ((16 : Nat) : Int) < 16 := by omega
    simp only [st35_1, lp35_1, subC, atC, Tryd.f35, an35, g0, T3, T4, T39, T40, T49, T57, EL, List.replicate_succ, stepD, accs, accP, accW, simpleOp, isAl, isExt, flipD, D.fresh1, D.row, D.plain, D.plain.plainL, St.close, St.close1, St.borrow, retV, resV, resL, outCL, outC, outL, outD, wantedV, opV, An.mid, thawV, D.plainU, prune, envOf, get, put, eval, evalT, nz, argsV, capsV, ofV, binV, binV.aggV, unV, intV, eqOp, isConst, natV, optV, loadV, loadC, storeV, setC, St.at_, partV, partTy, indexAddrV, fieldAddrV, sliceV, sliceV.rowSl, sliceV.strSl, bounds, cutP, builtinV, lenV, maxL, maxV, appendV, St.elems, roomy, rowOf, rowS, isStr, esz, tdOf, convV, buildV, fillV, partsV, okParts, fillL, D.whole, D.demoteC, D.demote, demoteL, D.global, D.flat, D.leaf, D.cells, TI.agg, TD.rowish, callOpV, moveL, CC, keepB, St.borrowL, St.borrow, D.isLsl, adoptR, adoptC, adoptCL, adoptL, adopt, List.toArray, Array.toList, Nat.reduceEqDiff, Nat.reduceAdd, Nat.reduceSub, Nat.reduceMul, Nat.reduceLeDiff, Nat.reduceLT, reduceIte, reduceCtorEq, forall_const, imp_self, Int.reduceNeg, Int.reduceLT, Int.reduceLE, Int.reduceGT, Int.reduceGE, Int.reduceAdd, Int.reduceSub, Int.reduceMul, Int.reduceToNat, Int.reduceEq, ne_eq, eq_self]
    exact ⟨_, _, rfl, by simp, rfl, _, rfl, rfl, rfl, rfl, rfl⟩

set_option maxRecDepth 10000 in
theorem loop35 (C : Callees) (B : Hp) {m : Nat → Nat} (hm : Bnd m) (st : St) (hst : an35.at_ (some 3) st = st35 B m 0) :
    ∃ x st', loopC T an35 C lp35_0 st = some (x, st') ∧ x = .exit 0 ∧ ∃ ρ, st' = ⟨ρ, [some (nums .u16 16 m), some (bools 256 offs), some (bools 256 (ofS m))], [], B⟩ ∧ get ρ 2 = .lptr 1 0 ∧ get ρ 3 = .lptr 2 0 := by
  refine loop_rule (st35 B m) (fun a => a ≤ 16) (fun a => 16 - a) _ ?_ 0 st hst (by omega)
  intro a ha
  rcases Nat.lt_or_ge a 16 with h | h
  · left
    refine ⟨a + 1, ?_, by omega, by omega⟩
    have g0 : (a : Int) < 16 := by omega
    have w1 : IntKind.i64.wrap ((a : Int) + 1) = ((a + 1 : Nat) : Int) := by rw [wrapI (by omega) (by omega)]; rfl
    have n1 := nat0 a
    have g1 := nums_get (k := .u16) (m := m) h
    simp only [st35, lp35_0, subC, atC, Tryd.f35, an35, g0, n1, h, g1, AL, T3, T4, T39, T40, T49, T57, EL, List.replicate_succ, stepD, accs, accP, accW, simpleOp, isAl, isExt, flipD, D.fresh1, D.row, D.plain, D.plain.plainL, St.close, St.close1, St.borrow, retV, resV, resL, outCL, outC, outL, outD, wantedV, opV, An.mid, thawV, D.plainU, prune, envOf, get, put, eval, evalT, nz, argsV, capsV, ofV, binV, binV.aggV, unV, intV, eqOp, isConst, natV, optV, loadV, loadC, storeV, setC, St.at_, partV, partTy, indexAddrV, fieldAddrV, sliceV, sliceV.rowSl, sliceV.strSl, bounds, cutP, builtinV, lenV, maxL, maxV, appendV, St.elems, roomy, rowOf, rowS, isStr, esz, tdOf, convV, buildV, fillV, partsV, okParts, fillL, D.whole, D.demoteC, D.demote, demoteL, D.global, D.flat, D.leaf, D.cells, TI.agg, TD.rowish, callOpV, moveL, CC, keepB, St.borrowL, St.borrow, D.isLsl, adoptR, adoptC, adoptCL, adoptL, adopt, List.toArray, Array.toList, Nat.reduceEqDiff, Nat.reduceAdd, Nat.reduceSub, Nat.reduceMul, Nat.reduceLeDiff, Nat.reduceLT, reduceIte, reduceCtorEq, forall_const, imp_self, Int.reduceNeg, Int.reduceLT, Int.reduceLE, Int.reduceGT, Int.reduceGE, Int.reduceAdd, Int.reduceSub, Int.reduceMul, Int.reduceToNat, Int.reduceEq, ne_eq, eq_self]
    generalize hr : loopC T _ C _ _ = r
    obtain ⟨x, st', rfl, hx⟩ := nest hr (loop35_1 C B hm h _ (by
      clear hr
      simp only [an35, ren_map, toks_map, boxes_map, st35_1, AL, An.at_, tidyV, tidyW, tidyB, tidyT, sift, envBoxes, envToks, conToks, D.toks, D.tok1, toksL, D.boxes, D.box1, boxesL, memN, posN, renE, D.ren, D.ren1, renL, renB, St.content, St.boxOk, St.tokOk, trues, T3, T4, T39, T40, T49, T57, EL, List.replicate_succ, stepD, accs, accP, accW, simpleOp, isAl, isExt, flipD, D.fresh1, D.row, D.plain, D.plain.plainL, St.close, St.close1, St.borrow, retV, resV, resL, outCL, outC, outL, outD, wantedV, opV, An.mid, thawV, D.plainU, prune, envOf, get, put, eval, evalT, nz, argsV, capsV, ofV, binV, binV.aggV, unV, intV, eqOp, isConst, natV, optV, loadV, loadC, storeV, setC, St.at_, partV, partTy, indexAddrV, fieldAddrV, sliceV, sliceV.rowSl, sliceV.strSl, bounds, cutP, builtinV, lenV, maxL, maxV, appendV, St.elems, roomy, rowOf, rowS, isStr, esz, tdOf, convV, buildV, fillV, partsV, okParts, fillL, D.whole, D.demoteC, D.demote, demoteL, D.global, D.flat, D.leaf, D.cells, TI.agg, TD.rowish, callOpV, moveL, CC, keepB, St.borrowL, St.borrow, D.isLsl, adoptR, adoptC, adoptCL, adoptL, adopt, List.toArray, Array.toList, Nat.reduceEqDiff, Nat.reduceAdd, Nat.reduceSub, Nat.reduceMul, Nat.reduceLeDiff, Nat.reduceLT, reduceIte, reduceCtorEq, forall_const, imp_self, Int.reduceNeg, Int.reduceLT, Int.reduceLE, Int.reduceGT, Int.reduceGE, Int.reduceAdd, Int.reduceSub, Int.reduceMul, Int.reduceToNat, Int.reduceEq, ne_eq, eq_self]
      rw [Nat.pow_zero, Nat.div_one]
      rfl)) rfl
    clear hr
    obtain ⟨rfl, ρ, rfl, h1, h2, h3, h4⟩ := hx
    simp only [h1, h2, h3, h4, w1, T3, T4, T39, T40, T49, T57, EL, List.replicate_succ, stepD, accs, accP, accW, simpleOp, isAl, isExt, flipD, D.fresh1, D.row, D.plain, D.plain.plainL, St.close, St.close1, St.borrow, retV, resV, resL, outCL, outC, outL, outD, wantedV, opV, An.mid, thawV, D.plainU, prune, envOf, get, put, eval, evalT, nz, argsV, capsV, ofV, binV, binV.aggV, unV, intV, eqOp, isConst, natV, optV, loadV, loadC, storeV, setC, St.at_, partV, partTy, indexAddrV, fieldAddrV, sliceV, sliceV.rowSl, sliceV.strSl, bounds, cutP, builtinV, lenV, maxL, maxV, appendV, St.elems, roomy, rowOf, rowS, isStr, esz, tdOf, convV, buildV, fillV, partsV, okParts, fillL, D.whole, D.demoteC, D.demote, demoteL, D.global, D.flat, D.leaf, D.cells, TI.agg, TD.rowish, callOpV, moveL, CC, keepB, St.borrowL, St.borrow, D.isLsl, adoptR, adoptC, adoptCL, adoptL, adopt, List.toArray, Array.toList, Nat.reduceEqDiff, Nat.reduceAdd, Nat.reduceSub, Nat.reduceMul, Nat.reduceLeDiff, Nat.reduceLT, reduceIte, reduceCtorEq, forall_const, imp_self, Int.reduceNeg, Int.reduceLT, Int.reduceLE, Int.reduceGT, Int.reduceGE, Int.reduceAdd, Int.reduceSub, Int.reduceMul, Int.reduceToNat, Int.reduceEq, ne_eq, eq_self]
    refine ⟨_, rfl, ?_⟩
    show an35.at_ (some 3) _ = _
    simp only [an35, ren_map, toks_map, boxes_map, st35, h1, h2, h3, h4, AL, An.at_, tidyV, tidyW, tidyB, tidyT, sift, envBoxes, envToks, conToks, D.toks, D.tok1, toksL, D.boxes, D.box1, boxesL, memN, posN, renE, D.ren, D.ren1, renL, renB, St.content, St.boxOk, St.tokOk, trues, T3, T4, T39, T40, T49, T57, EL, List.replicate_succ, stepD, accs, accP, accW, simpleOp, isAl, isExt, flipD, D.fresh1, D.row, D.plain, D.plain.plainL, St.close, St.close1, St.borrow, retV, resV, resL, outCL, outC, outL, outD, wantedV, opV, An.mid, thawV, D.plainU, prune, envOf, get, put, eval, evalT, nz, argsV, capsV, ofV, binV, binV.aggV, unV, intV, eqOp, isConst, natV, optV, loadV, loadC, storeV, setC, St.at_, partV, partTy, indexAddrV, fieldAddrV, sliceV, sliceV.rowSl, sliceV.strSl, bounds, cutP, builtinV, lenV, maxL, maxV, appendV, St.elems, roomy, rowOf, rowS, isStr, esz, tdOf, convV, buildV, fillV, partsV, okParts, fillL, D.whole, D.demoteC, D.demote, demoteL, D.global, D.flat, D.leaf, D.cells, TI.agg, TD.rowish, callOpV, moveL, CC, keepB, St.borrowL, St.borrow, D.isLsl, adoptR, adoptC, adoptCL, adoptL, adopt, List.toArray, Array.toList, Nat.reduceEqDiff, Nat.reduceAdd, Nat.reduceSub, Nat.reduceMul, Nat.reduceLeDiff, Nat.reduceLT, reduceIte, reduceCtorEq, forall_const, imp_self, Int.reduceNeg, Int.reduceLT, Int.reduceLE, Int.reduceGT, Int.reduceGE, Int.reduceAdd, Int.reduceSub, Int.reduceMul, Int.reduceToNat, Int.reduceEq, ne_eq, eq_self]
    rw [show a * 16 + 16 = (a + 1) * 16 by omega]
  · right
    obtain rfl : a = 16 := by omega
    have g0 : ¬ ((16 : Nat) : Int) < 16 := by omega
    have e := ofK_end m
    simp only [st35, lp35_0, subC, atC, Tryd.f35, an35, g0, e, T3, T4, T39, T40, T49, T57, EL, List.replicate_succ, stepD, accs, accP, accW, simpleOp, isAl, isExt, flipD, D.fresh1, D.row, D.plain, D.plain.plainL, St.close, St.close1, St.borrow, retV, resV, resL, outCL, outC, outL, outD, wantedV, opV, An.mid, thawV, D.plainU, prune, envOf, get, put, eval, evalT, nz, argsV, capsV, ofV, binV, binV.aggV, unV, intV, eqOp, isConst, natV, optV, loadV, loadC, storeV, setC, St.at_, partV, partTy, indexAddrV, fieldAddrV, sliceV, sliceV.rowSl, sliceV.strSl, bounds, cutP, builtinV, lenV, maxL, maxV, appendV, St.elems, roomy, rowOf, rowS, isStr, esz, tdOf, convV, buildV, fillV, partsV, okParts, fillL, D.whole, D.demoteC, D.demote, demoteL, D.global, D.flat, D.leaf, D.cells, TI.agg, TD.rowish, callOpV, moveL, CC, keepB, St.borrowL, St.borrow, D.isLsl, adoptR, adoptC, adoptCL, adoptL, adopt, List.toArray, Array.toList, Nat.reduceEqDiff, Nat.reduceAdd, Nat.reduceSub, Nat.reduceMul, Nat.reduceLeDiff, Nat.reduceLT, reduceIte, reduceCtorEq, forall_const, imp_self, Int.reduceNeg, Int.reduceLT, Int.reduceLE, Int.reduceGT, Int.reduceGE, Int.reduceAdd, Int.reduceSub, Int.reduceMul, Int.reduceToNat, Int.reduceEq, ne_eq, eq_self]
    exact ⟨_, _, rfl, by simp, rfl, _, rfl, rfl, rfl⟩

set_option maxRecDepth 10000 in
theorem run35 (C : Callees) {m : Nat → Nat} (hm : Bnd m) (B : Hp) : runV T C fi35 [mD m] B = some (tD (ofS m), B) := by
  rw [e_run _ _ _ rfl]
  simp only [fi35, Tryd.f35, an35, AL, T3, T4, T39, T40, T49, T57, EL, List.replicate_succ, stepD, accs, accP, accW, simpleOp, isAl, isExt, flipD, D.fresh1, D.row, D.plain, D.plain.plainL, St.close, St.close1, St.borrow, retV, resV, resL, outCL, outC, outL, outD, wantedV, opV, An.mid, thawV, D.plainU, prune, envOf, get, put, eval, evalT, nz, argsV, capsV, ofV, binV, binV.aggV, unV, intV, eqOp, isConst, natV, optV, loadV, loadC, storeV, setC, St.at_, partV, partTy, indexAddrV, fieldAddrV, sliceV, sliceV.rowSl, sliceV.strSl, bounds, cutP, builtinV, lenV, maxL, maxV, appendV, St.elems, roomy, rowOf, rowS, isStr, esz, tdOf, convV, buildV, fillV, partsV, okParts, fillL, D.whole, D.demoteC, D.demote, demoteL, D.global, D.flat, D.leaf, D.cells, TI.agg, TD.rowish, callOpV, moveL, CC, keepB, St.borrowL, St.borrow, D.isLsl, adoptR, adoptC, adoptCL, adoptL, adopt, List.toArray, Array.toList, Nat.reduceEqDiff, Nat.reduceAdd, Nat.reduceSub, Nat.reduceMul, Nat.reduceLeDiff, Nat.reduceLT, reduceIte, reduceCtorEq, forall_const, imp_self, Int.reduceNeg, Int.reduceLT, Int.reduceLE, Int.reduceGT, Int.reduceGE, Int.reduceAdd, Int.reduceSub, Int.reduceMul, Int.reduceToNat, Int.reduceEq, ne_eq, eq_self]
  refine' in_loop (c' := lp35_0) (fin T _ _ _) ?h rfl ?q
  case h =>
    refine loop35 C B hm _ ?_
    simp only [an35, ren_map, toks_map, boxes_map, st35, AL, An.at_, tidyV, tidyW, tidyB, tidyT, sift, envBoxes, envToks, conToks, D.toks, D.tok1, toksL, D.boxes, D.box1, boxesL, memN, posN, renE, D.ren, D.ren1, renL, renB, St.content, St.boxOk, St.tokOk, trues, T3, T4, T39, T40, T49, T57, EL, List.replicate_succ, stepD, accs, accP, accW, simpleOp, isAl, isExt, flipD, D.fresh1, D.row, D.plain, D.plain.plainL, St.close, St.close1, St.borrow, retV, resV, resL, outCL, outC, outL, outD, wantedV, opV, An.mid, thawV, D.plainU, prune, envOf, get, put, eval, evalT, nz, argsV, capsV, ofV, binV, binV.aggV, unV, intV, eqOp, isConst, natV, optV, loadV, loadC, storeV, setC, St.at_, partV, partTy, indexAddrV, fieldAddrV, sliceV, sliceV.rowSl, sliceV.strSl, bounds, cutP, builtinV, lenV, maxL, maxV, appendV, St.elems, roomy, rowOf, rowS, isStr, esz, tdOf, convV, buildV, fillV, partsV, okParts, fillL, D.whole, D.demoteC, D.demote, demoteL, D.global, D.flat, D.leaf, D.cells, TI.agg, TD.rowish, callOpV, moveL, CC, keepB, St.borrowL, St.borrow, D.isLsl, adoptR, adoptC, adoptCL, adoptL, adopt, List.toArray, Array.toList, Nat.reduceEqDiff, Nat.reduceAdd, Nat.reduceSub, Nat.reduceMul, Nat.reduceLeDiff, Nat.reduceLT, reduceIte, reduceCtorEq, forall_const, imp_self, Int.reduceNeg, Int.reduceLT, Int.reduceLE, Int.reduceGT, Int.reduceGE, Int.reduceAdd, Int.reduceSub, Int.reduceMul, Int.reduceToNat, Int.reduceEq, ne_eq, eq_self]
    rw [← ofK_0]
    rfl
  rintro x st' ⟨rfl, ρ, rfl, h1, h2⟩
  simp only [h1, h2, AL, T3, T4, T39, T40, T49, T57, EL, List.replicate_succ, stepD, accs, accP, accW, simpleOp, isAl, isExt, flipD, D.fresh1, D.row, D.plain, D.plain.plainL, St.close, St.close1, St.borrow, retV, resV, resL, outCL, outC, outL, outD, wantedV, opV, An.mid, thawV, D.plainU, prune, envOf, get, put, eval, evalT, nz, argsV, capsV, ofV, binV, binV.aggV, unV, intV, eqOp, isConst, natV, optV, loadV, loadC, storeV, St.at_, partV, partTy, indexAddrV, fieldAddrV, sliceV, sliceV.rowSl, sliceV.strSl, bounds, cutP, builtinV, lenV, maxL, maxV, appendV, St.elems, roomy, rowOf, rowS, isStr, esz, tdOf, convV, buildV, fillV, partsV, okParts, fillL, D.whole, D.demoteC, D.demote, demoteL, D.global, D.flat, D.leaf, D.cells, TI.agg, TD.rowish, callOpV, moveL, CC, keepB, St.borrowL, St.borrow, D.isLsl, adoptR, adoptC, adoptCL, adoptL, adopt, List.toArray, Array.toList, Nat.reduceEqDiff, Nat.reduceAdd, Nat.reduceSub, Nat.reduceMul, Nat.reduceLeDiff, Nat.reduceLT, reduceIte, reduceCtorEq, forall_const, imp_self, Int.reduceNeg, Int.reduceLT, Int.reduceLE, Int.reduceGT, Int.reduceGE, Int.reduceAdd, Int.reduceSub, Int.reduceMul, Int.reduceToNat, Int.reduceEq, ne_eq, eq_self]
theorem c35 (hC : Ref31 C) {m : Nat → Nat} (hm : Bnd m) (B : Hp) : C 35 [.agg (nums .u16 16 m)] B = some (.agg (bools 256 (ofS m)), B) := hC.f35 _ _ _ (run35 C hm B)

/-! ### To -/
def toV (t : Nat → Bool) (a c : Nat) : Nat := ofB (fun j => t (a * 16 + c + j)) (16 - c)
def toK (t : Nat → Bool) (a c : Nat) : Nat → Nat := fun i => if i < a then toS t i else if i = a then toV t a c else 0
theorem toV_step (t : Nat → Bool) {a c : Nat} (h : c < 16) : toV t a c = (bif t (a * 16 + c) then 1 else 0) + 2 * toV t a (c + 1) := by
  unfold toV
  rw [show 16 - c = (16 - (c + 1)) + 1 by omega, ofB]
  congr 3
  funext j
  rw [show a * 16 + c + (j + 1) = a * 16 + (c + 1) + j by omega]
theorem toV_lt (t : Nat → Bool) {a c : Nat} (h : c < 16) : toV t a (c + 1) < 32768 := Nat.lt_of_lt_of_le (ofB_lt _ _) (Nat.pow_le_pow_right (n := 2) (by decide) (by omega : 16 - (c + 1) ≤ 15))
theorem toK_set (t : Nat → Bool) (a c x y : Nat) : updA (updA (toK t a c) a x) a y = updA (toK t a c) a y := by
  funext i; unfold updA; split <;> rfl
theorem toK_step (t : Nat → Bool) (a c : Nat) : updA (toK t a (c + 1)) a (toV t a c) = toK t a c := by
  funext i
  unfold updA toK
  by_cases e : i = a
  · subst e; rw [if_pos rfl, if_neg (by omega), if_pos rfl]
  · rw [if_neg e, if_neg e, if_neg e]
theorem toK_at (t : Nat → Bool) (a c : Nat) : toK t a c a = toV t a c := by unfold toK; rw [if_neg (by omega), if_pos rfl]
theorem toK_row (t : Nat → Bool) (a : Nat) : toK t a 0 = toK t (a + 1) 16 := by
  funext i
  unfold toK
  by_cases e1 : i < a
  · rw [if_pos e1, if_pos (by omega)]
  · rw [if_neg e1]
    by_cases e : i = a
    · subst e; rw [if_pos rfl, if_pos (by omega)]; rfl
    · rw [if_neg e, if_neg (by omega)]
      by_cases e2 : i = a + 1
      · subst e2; rw [if_pos rfl]; rfl
      · rw [if_neg e2]
theorem toK_0 (t : Nat → Bool) : (fun _ => 0) = toK t 0 16 := by
  funext i
  unfold toK
  rw [if_neg (by omega)]
  split <;> rfl
theorem toK_end (t : Nat → Bool) : nums .u16 16 (toK t 16 16) = nums .u16 16 (toS t) := nums_ext fun i hi => by unfold toK; rw [if_pos hi]

def st68 (B : Hp) (t : Nat → Bool) (a : Nat) : St := ⟨[(1, .lptr 0 0), (2, .lptr 1 0), (3, .lptr 2 0), (4, .int .i64 a)], [some (bools 256 t), some (nums .u16 16 zeroM), some (nums .u16 16 (toK t a 16))], [], B⟩
def st68_1 (B : Hp) (t : Nat → Bool) (a c : Nat) : St := ⟨[(1, .lptr 0 0), (2, .lptr 1 0), (3, .lptr 2 0), (4, .int .i64 a), (5, .int .i64 ((c : Int) - 1))], [some (bools 256 t), some (nums .u16 16 zeroM), some (nums .u16 16 (toK t a c))], [], B⟩

set_option maxRecDepth 10000 in
theorem loop68_1 (C : Callees) (B : Hp) (t : Nat → Bool) {a : Nat} (ha : a < 16) (st : St) (hst : an68.at_ (some 6) st = st68_1 B t a 16) :
    ∃ x st', loopC T an68 C lp68_1 st = some (x, st') ∧ x = .exit 2 ∧ ∃ ρ, st' = ⟨ρ, [some (bools 256 t), some (nums .u16 16 zeroM), some (nums .u16 16 (toK t a 0))], [], B⟩ ∧ get ρ 1 = .lptr 0 0 ∧ get ρ 2 = .lptr 1 0 ∧ get ρ 3 = .lptr 2 0 ∧ get ρ 4 = .int .i64 a := by
  refine loop_rule (st68_1 B t a) (fun c => c ≤ 16) (fun c => c) _ ?_ 16 st hst (by omega)
  intro c hc
  rcases Nat.eq_zero_or_pos c with rfl | h
  · right
    have g0 : ¬ ((0 : Nat) : Int) - 1 ≥ 0 := by omega
    simp only [st68_1, lp68_1, subC, atC, Tryd.f68, an68, g0, T3, T4, T39, T40, T49, T57, EL, List.replicate_succ, stepD, accs, accP, accW, simpleOp, isAl, isExt, flipD, D.fresh1, D.row, D.plain, D.plain.plainL, St.close, St.close1, St.borrow, retV, resV, resL, outCL, outC, outL, outD, wantedV, opV, An.mid, thawV, D.plainU, prune, envOf, get, put, eval, evalT, nz, argsV, capsV, ofV, binV, binV.aggV, unV, intV, eqOp, isConst, natV, optV, loadV, loadC, storeV, setC, St.at_, partV, partTy, indexAddrV, fieldAddrV, sliceV, sliceV.rowSl, sliceV.strSl, bounds, cutP, builtinV, lenV, maxL, maxV, appendV, St.elems, roomy, rowOf, rowS, isStr, esz, tdOf, convV, buildV, fillV, partsV, okParts, fillL, D.whole, D.demoteC, D.demote, demoteL, D.global, D.flat, D.leaf, D.cells, TI.agg, TD.rowish, callOpV, moveL, CC, keepB, St.borrowL, St.borrow, D.isLsl, adoptR, adoptC, adoptCL, adoptL, adopt, List.toArray, Array.toList, Nat.reduceEqDiff, Nat.reduceAdd, Nat.reduceSub, Nat.reduceMul, Nat.reduceLeDiff, Nat.reduceLT, reduceIte, reduceCtorEq, forall_const, imp_self, Int.reduceNeg, Int.reduceLT, Int.reduceLE, Int.reduceGT, Int.reduceGE, Int.reduceAdd, Int.reduceSub, Int.reduceMul, Int.reduceToNat, Int.reduceEq, ne_eq, eq_self]
    exact ⟨_, _, rfl, by simp, rfl, _, rfl, rfl, rfl, rfl, rfl⟩
  · left
    obtain ⟨b, rfl⟩ : ∃ b, c = b + 1 := ⟨c - 1, by omega⟩
    have hb : b < 16 := by omega
    refine ⟨b, ?_, by omega, by omega⟩
    have e0 : ((b + 1 : Nat) : Int) - 1 = b := by omega
    have n1 := nat0 a
    have n2 := nat0 b
    have g0 : (b : Int) ≥ 0 := n2
    have hp : a * 16 + b < 256 := by omega
    have hv := toV_lt t (a := a) hb
    have g1 := nums_get (k := .u16) (m := toK t a (b + 1)) ha
    rw [toK_at] at g1
    have w1 : IntKind.u16.wrap (2 * ((toV t a (b + 1) : Nat) : Int)) = ((2 * toV t a (b + 1) : Nat) : Int) := by rw [wrap_u16 (by omega) (by omega)]; omega
    have s1 := nums_set (k := .u16) (m := toK t a (b + 1)) (x := 2 * toV t a (b + 1)) ha
    have g2 := bools_get (p := t) hp
    have w2 : IntKind.i64.wrap ((b : Int) - 1) = (b : Int) - 1 := wrapI (by omega) (by omega)
    cases e : t (a * 16 + b) <;> rw [e] at g2
    · have e1 : 2 * toV t a (b + 1) = toV t a b := by rw [toV_step t hb, e]; simp
      rw [e1, toK_step] at s1
      rw [e1] at w1
      simp only [st68_1, lp68_1, subC, atC, Tryd.f68, an68, g0, e0, n1, n2, ha, hb, hp, g1, w1, s1, g2, w2, AL, T3, T4, T39, T40, T49, T57, EL, List.replicate_succ, stepD, accs, accP, accW, simpleOp, isAl, isExt, flipD, D.fresh1, D.row, D.plain, D.plain.plainL, St.close, St.close1, St.borrow, retV, resV, resL, outCL, outC, outL, outD, wantedV, opV, An.mid, thawV, D.plainU, prune, envOf, get, put, eval, evalT, nz, argsV, capsV, ofV, binV, binV.aggV, unV, intV, eqOp, isConst, natV, optV, loadV, loadC, storeV, St.at_, partV, partTy, indexAddrV, fieldAddrV, sliceV, sliceV.rowSl, sliceV.strSl, bounds, cutP, builtinV, lenV, maxL, maxV, appendV, St.elems, roomy, rowOf, rowS, isStr, esz, tdOf, convV, buildV, fillV, partsV, okParts, fillL, D.whole, D.demoteC, D.demote, demoteL, D.global, D.flat, D.leaf, D.cells, TI.agg, TD.rowish, callOpV, moveL, CC, keepB, St.borrowL, St.borrow, D.isLsl, adoptR, adoptC, adoptCL, adoptL, adopt, List.toArray, Array.toList, Nat.reduceEqDiff, Nat.reduceAdd, Nat.reduceSub, Nat.reduceMul, Nat.reduceLeDiff, Nat.reduceLT, reduceIte, reduceCtorEq, forall_const, imp_self, Int.reduceNeg, Int.reduceLT, Int.reduceLE, Int.reduceGT, Int.reduceGE, Int.reduceAdd, Int.reduceSub, Int.reduceMul, Int.reduceToNat, Int.reduceEq, ne_eq, eq_self]
      exact ⟨_, rfl, rfl⟩
    · have e1 : 2 * toV t a (b + 1) + 1 = toV t a b := by rw [toV_step t hb, e]; simp; omega
      have g3 := nums_get (k := .u16) (m := updA (toK t a (b + 1)) a (2 * toV t a (b + 1))) ha
      rw [updA_same] at g3
      have s2 := nums_set (k := .u16) (m := updA (toK t a (b + 1)) a (2 * toV t a (b + 1))) (x := 2 * toV t a (b + 1) + 1) ha
      rw [toK_set, e1, toK_step] at s2
      have w3 : IntKind.u16.wrap (((2 * toV t a (b + 1) : Nat) : Int) + 1) = ((toV t a b : Nat) : Int) := by rw [wrap_u16 (by omega) (by omega)]; omega
      simp only [st68_1, lp68_1, subC, atC, Tryd.f68, an68, g0, e0, n1, n2, ha, hb, hp, g1, w1, s1, g2, w2, g3, s2, w3, AL, T3, T4, T39, T40, T49, T57, EL, List.replicate_succ, stepD, accs, accP, accW, simpleOp, isAl, isExt, flipD, D.fresh1, D.row, D.plain, D.plain.plainL, St.close, St.close1, St.borrow, retV, resV, resL, outCL, outC, outL, outD, wantedV, opV, An.mid, thawV, D.plainU, prune, envOf, get, put, eval, evalT, nz, argsV, capsV, ofV, binV, binV.aggV, unV, intV, eqOp, isConst, natV, optV, loadV, loadC, storeV, St.at_, partV, partTy, indexAddrV, fieldAddrV, sliceV, sliceV.rowSl, sliceV.strSl, bounds, cutP, builtinV, lenV, maxL, maxV, appendV, St.elems, roomy, rowOf, rowS, isStr, esz, tdOf, convV, buildV, fillV, partsV, okParts, fillL, D.whole, D.demoteC, D.demote, demoteL, D.global, D.flat, D.leaf, D.cells, TI.agg, TD.rowish, callOpV, moveL, CC, keepB, St.borrowL, St.borrow, D.isLsl, adoptR, adoptC, adoptCL, adoptL, adopt, List.toArray, Array.toList, Nat.reduceEqDiff, Nat.reduceAdd, Nat.reduceSub, Nat.reduceMul, Nat.reduceLeDiff, Nat.reduceLT, reduceIte, reduceCtorEq, forall_const, imp_self, Int.reduceNeg, Int.reduceLT, Int.reduceLE, Int.reduceGT, Int.reduceGE, Int.reduceAdd, Int.reduceSub, Int.reduceMul, Int.reduceToNat, Int.reduceEq, ne_eq, eq_self]
      exact ⟨_, rfl, rfl⟩

set_option maxRecDepth 10000 in
theorem loop68 (C : Callees) (B : Hp) (t : Nat → Bool) (st : St) (hst : an68.at_ (some 3) st = st68 B t 0) :
    ∃ x st', loopC T an68 C lp68_0 st = some (x, st') ∧ x = .exit 0 ∧ ∃ ρ, st' = ⟨ρ, [some (bools 256 t), some (nums .u16 16 zeroM), some (nums .u16 16 (toS t))], [], B⟩ ∧ get ρ 2 = .lptr 1 0 ∧ get ρ 3 = .lptr 2 0 := by
  refine loop_rule (st68 B t) (fun a => a ≤ 16) (fun a => 16 - a) _ ?_ 0 st hst (by omega)
  intro a ha
  rcases Nat.lt_or_ge a 16 with h | h
  · left
    refine ⟨a + 1, ?_, by omega, by omega⟩
    have g0 : (a : Int) < 16 := by omega
    have w1 : IntKind.i64.wrap ((a : Int) + 1) = ((a + 1 : Nat) : Int) := by rw [wrapI (by omega) (by omega)]; rfl
    simp only [st68, lp68_0, subC, atC, Tryd.f68, an68, g0, T3, T4, T39, T40, T49, T57, EL, List.replicate_succ, stepD, accs, accP, accW, simpleOp, isAl, isExt, flipD, D.fresh1, D.row, D.plain, D.plain.plainL, St.close, St.close1, St.borrow, retV, resV, resL, outCL, outC, outL, outD, wantedV, opV, An.mid, thawV, D.plainU, prune, envOf, get, put, eval, evalT, nz, argsV, capsV, ofV, binV, binV.aggV, unV, intV, eqOp, isConst, natV, optV, loadV, loadC, storeV, setC, St.at_, partV, partTy, indexAddrV, fieldAddrV, sliceV, sliceV.rowSl, sliceV.strSl, bounds, cutP, builtinV, lenV, maxL, maxV, appendV, St.elems, roomy, rowOf, rowS, isStr, esz, tdOf, convV, buildV, fillV, partsV, okParts, fillL, D.whole, D.demoteC, D.demote, demoteL, D.global, D.flat, D.leaf, D.cells, TI.agg, TD.rowish, callOpV, moveL, CC, keepB, St.borrowL, St.borrow, D.isLsl, adoptR, adoptC, adoptCL, adoptL, adopt, List.toArray, Array.toList, Nat.reduceEqDiff, Nat.reduceAdd, Nat.reduceSub, Nat.reduceMul, Nat.reduceLeDiff, Nat.reduceLT, reduceIte, reduceCtorEq, forall_const, imp_self, Int.reduceNeg, Int.reduceLT, Int.reduceLE, Int.reduceGT, Int.reduceGE, Int.reduceAdd, Int.reduceSub, Int.reduceMul, Int.reduceToNat, Int.reduceEq, ne_eq, eq_self]
    generalize hr : loopC T _ C _ _ = r
    obtain ⟨x, st', rfl, hx⟩ := nest hr (loop68_1 C B t h _ (by
      clear hr
      simp only [an68, ren_map, toks_map, boxes_map, st68_1, AL, An.at_, tidyV, tidyW, tidyB, tidyT, sift, envBoxes, envToks, conToks, D.toks, D.tok1, toksL, D.boxes, D.box1, boxesL, memN, posN, renE, D.ren, D.ren1, renL, renB, St.content, St.boxOk, St.tokOk, trues, T3, T4, T39, T40, T49, T57, EL, List.replicate_succ, stepD, accs, accP, accW, simpleOp, isAl, isExt, flipD, D.fresh1, D.row, D.plain, D.plain.plainL, St.close, St.close1, St.borrow, retV, resV, resL, outCL, outC, outL, outD, wantedV, opV, An.mid, thawV, D.plainU, prune, envOf, get, put, eval, evalT, nz, argsV, capsV, ofV, binV, binV.aggV, unV, intV, eqOp, isConst, natV, optV, loadV, loadC, storeV, setC, St.at_, partV, partTy, indexAddrV, fieldAddrV, sliceV, sliceV.rowSl, sliceV.strSl, bounds, cutP, builtinV, lenV, maxL, maxV, appendV, St.elems, roomy, rowOf, rowS, isStr, esz, tdOf, convV, buildV, fillV, partsV, okParts, fillL, D.whole, D.demoteC, D.demote, demoteL, D.global, D.flat, D.leaf, D.cells, TI.agg, TD.rowish, callOpV, moveL, CC, keepB, St.borrowL, St.borrow, D.isLsl, adoptR, adoptC, adoptCL, adoptL, adopt, List.toArray, Array.toList, Nat.reduceEqDiff, Nat.reduceAdd, Nat.reduceSub, Nat.reduceMul, Nat.reduceLeDiff, Nat.reduceLT, reduceIte, reduceCtorEq, forall_const, imp_self, Int.reduceNeg, Int.reduceLT, Int.reduceLE, Int.reduceGT, Int.reduceGE, Int.reduceAdd, Int.reduceSub, Int.reduceMul, Int.reduceToNat, Int.reduceEq, ne_eq, eq_self]
      rfl)) rfl
    clear hr
    obtain ⟨rfl, ρ, rfl, h1, h2, h3, h4⟩ := hx
    simp only [h1, h2, h3, h4, w1, T3, T4, T39, T40, T49, T57, EL, List.replicate_succ, stepD, accs, accP, accW, simpleOp, isAl, isExt, flipD, D.fresh1, D.row, D.plain, D.plain.plainL, St.close, St.close1, St.borrow, retV, resV, resL, outCL, outC, outL, outD, wantedV, opV, An.mid, thawV, D.plainU, prune, envOf, get, put, eval, evalT, nz, argsV, capsV, ofV, binV, binV.aggV, unV, intV, eqOp, isConst, natV, optV, loadV, loadC, storeV, setC, St.at_, partV, partTy, indexAddrV, fieldAddrV, sliceV, sliceV.rowSl, sliceV.strSl, bounds, cutP, builtinV, lenV, maxL, maxV, appendV, St.elems, roomy, rowOf, rowS, isStr, esz, tdOf, convV, buildV, fillV, partsV, okParts, fillL, D.whole, D.demoteC, D.demote, demoteL, D.global, D.flat, D.leaf, D.cells, TI.agg, TD.rowish, callOpV, moveL, CC, keepB, St.borrowL, St.borrow, D.isLsl, adoptR, adoptC, adoptCL, adoptL, adopt, List.toArray, Array.toList, Nat.reduceEqDiff, Nat.reduceAdd, Nat.reduceSub, Nat.reduceMul, Nat.reduceLeDiff, Nat.reduceLT, reduceIte, reduceCtorEq, forall_const, imp_self, Int.reduceNeg, Int.reduceLT, Int.reduceLE, Int.reduceGT, Int.reduceGE, Int.reduceAdd, Int.reduceSub, Int.reduceMul, Int.reduceToNat, Int.reduceEq, ne_eq, eq_self]
    refine ⟨_, rfl, ?_⟩
    show an68.at_ (some 3) _ = _
    simp only [an68, ren_map, toks_map, boxes_map, st68, h1, h2, h3, h4, toK_row, AL, An.at_, tidyV, tidyW, tidyB, tidyT, sift, envBoxes, envToks, conToks, D.toks, D.tok1, toksL, D.boxes, D.box1, boxesL, memN, posN, renE, D.ren, D.ren1, renL, renB, St.content, St.boxOk, St.tokOk, trues, T3, T4, T39, T40, T49, T57, EL, List.replicate_succ, stepD, accs, accP, accW, simpleOp, isAl, isExt, flipD, D.fresh1, D.row, D.plain, D.plain.plainL, St.close, St.close1, St.borrow, retV, resV, resL, outCL, outC, outL, outD, wantedV, opV, An.mid, thawV, D.plainU, prune, envOf, get, put, eval, evalT, nz, argsV, capsV, ofV, binV, binV.aggV, unV, intV, eqOp, isConst, natV, optV, loadV, loadC, storeV, setC, St.at_, partV, partTy, indexAddrV, fieldAddrV, sliceV, sliceV.rowSl, sliceV.strSl, bounds, cutP, builtinV, lenV, maxL, maxV, appendV, St.elems, roomy, rowOf, rowS, isStr, esz, tdOf, convV, buildV, fillV, partsV, okParts, fillL, D.whole, D.demoteC, D.demote, demoteL, D.global, D.flat, D.leaf, D.cells, TI.agg, TD.rowish, callOpV, moveL, CC, keepB, St.borrowL, St.borrow, D.isLsl, adoptR, adoptC, adoptCL, adoptL, adopt, List.toArray, Array.toList, Nat.reduceEqDiff, Nat.reduceAdd, Nat.reduceSub, Nat.reduceMul, Nat.reduceLeDiff, Nat.reduceLT, reduceIte, reduceCtorEq, forall_const, imp_self, Int.reduceNeg, Int.reduceLT, Int.reduceLE, Int.reduceGT, Int.reduceGE, Int.reduceAdd, Int.reduceSub, Int.reduceMul, Int.reduceToNat, Int.reduceEq, ne_eq, eq_self]
  · right
    obtain rfl : a = 16 := by omega
    have g0 : ¬ ((16 : Nat) : Int) < 16 := by omega
    have e := toK_end t
    simp only [st68, lp68_0, subC, atC, Tryd.f68, an68, g0, e, T3, T4, T39, T40, T49, T57, EL, List.replicate_succ, stepD, accs, accP, accW, simpleOp, isAl, isExt, flipD, D.fresh1, D.row, D.plain, D.plain.plainL, St.close, St.close1, St.borrow, retV, resV, resL, outCL, outC, outL, outD, wantedV, opV, An.mid, thawV, D.plainU, prune, envOf, get, put, eval, evalT, nz, argsV, capsV, ofV, binV, binV.aggV, unV, intV, eqOp, isConst, natV, optV, loadV, loadC, storeV, setC, St.at_, partV, partTy, indexAddrV, fieldAddrV, sliceV, sliceV.rowSl, sliceV.strSl, bounds, cutP, builtinV, lenV, maxL, maxV, appendV, St.elems, roomy, rowOf, rowS, isStr, esz, tdOf, convV, buildV, fillV, partsV, okParts, fillL, D.whole, D.demoteC, D.demote, demoteL, D.global, D.flat, D.leaf, D.cells, TI.agg, TD.rowish, callOpV, moveL, CC, keepB, St.borrowL, St.borrow, D.isLsl, adoptR, adoptC, adoptCL, adoptL, adopt, List.toArray, Array.toList, Nat.reduceEqDiff, Nat.reduceAdd, Nat.reduceSub, Nat.reduceMul, Nat.reduceLeDiff, Nat.reduceLT, reduceIte, reduceCtorEq, forall_const, imp_self, Int.reduceNeg, Int.reduceLT, Int.reduceLE, Int.reduceGT, Int.reduceGE, Int.reduceAdd, Int.reduceSub, Int.reduceMul, Int.reduceToNat, Int.reduceEq, ne_eq, eq_self]
    exact ⟨_, _, rfl, by simp, rfl, _, rfl, rfl, rfl⟩

set_option maxRecDepth 10000 in
theorem run68 (C : Callees) (t : Nat → Bool) (B : Hp) : runV T C fi68 [tD t] B = some (mD (toS t), B) := by
  rw [e_run _ _ _ rfl]
  simp only [fi68, Tryd.f68, an68, AL, T3, T4, T39, T40, T49, T57, EL, List.replicate_succ, stepD, accs, accP, accW, simpleOp, isAl, isExt, flipD, D.fresh1, D.row, D.plain, D.plain.plainL, St.close, St.close1, St.borrow, retV, resV, resL, outCL, outC, outL, outD, wantedV, opV, An.mid, thawV, D.plainU, prune, envOf, get, put, eval, evalT, nz, argsV, capsV, ofV, binV, binV.aggV, unV, intV, eqOp, isConst, natV, optV, loadV, loadC, storeV, setC, St.at_, partV, partTy, indexAddrV, fieldAddrV, sliceV, sliceV.rowSl, sliceV.strSl, bounds, cutP, builtinV, lenV, maxL, maxV, appendV, St.elems, roomy, rowOf, rowS, isStr, esz, tdOf, convV, buildV, fillV, partsV, okParts, fillL, D.whole, D.demoteC, D.demote, demoteL, D.global, D.flat, D.leaf, D.cells, TI.agg, TD.rowish, callOpV, moveL, CC, keepB, St.borrowL, St.borrow, D.isLsl, adoptR, adoptC, adoptCL, adoptL, adopt, List.toArray, Array.toList, Nat.reduceEqDiff, Nat.reduceAdd, Nat.reduceSub, Nat.reduceMul, Nat.reduceLeDiff, Nat.reduceLT, reduceIte, reduceCtorEq, forall_const, imp_self, Int.reduceNeg, Int.reduceLT, Int.reduceLE, Int.reduceGT, Int.reduceGE, Int.reduceAdd, Int.reduceSub, Int.reduceMul, Int.reduceToNat, Int.reduceEq, ne_eq, eq_self]
  refine' in_loop (c' := lp68_0) (fin T _ _ _) ?h rfl ?q
  case h =>
    refine loop68 C B t _ ?_
    simp only [an68, ren_map, toks_map, boxes_map, st68, AL, An.at_, tidyV, tidyW, tidyB, tidyT, sift, envBoxes, envToks, conToks, D.toks, D.tok1, toksL, D.boxes, D.box1, boxesL, memN, posN, renE, D.ren, D.ren1, renL, renB, St.content, St.boxOk, St.tokOk, trues, T3, T4, T39, T40, T49, T57, EL, List.replicate_succ, stepD, accs, accP, accW, simpleOp, isAl, isExt, flipD, D.fresh1, D.row, D.plain, D.plain.plainL, St.close, St.close1, St.borrow, retV, resV, resL, outCL, outC, outL, outD, wantedV, opV, An.mid, thawV, D.plainU, prune, envOf, get, put, eval, evalT, nz, argsV, capsV, ofV, binV, binV.aggV, unV, intV, eqOp, isConst, natV, optV, loadV, loadC, storeV, setC, St.at_, partV, partTy, indexAddrV, fieldAddrV, sliceV, sliceV.rowSl, sliceV.strSl, bounds, cutP, builtinV, lenV, maxL, maxV, appendV, St.elems, roomy, rowOf, rowS, isStr, esz, tdOf, convV, buildV, fillV, partsV, okParts, fillL, D.whole, D.demoteC, D.demote, demoteL, D.global, D.flat, D.leaf, D.cells, TI.agg, TD.rowish, callOpV, moveL, CC, keepB, St.borrowL, St.borrow, D.isLsl, adoptR, adoptC, adoptCL, adoptL, adopt, List.toArray, Array.toList, Nat.reduceEqDiff, Nat.reduceAdd, Nat.reduceSub, Nat.reduceMul, Nat.reduceLeDiff, Nat.reduceLT, reduceIte, reduceCtorEq, forall_const, imp_self, Int.reduceNeg, Int.reduceLT, Int.reduceLE, Int.reduceGT, Int.reduceGE, Int.reduceAdd, Int.reduceSub, Int.reduceMul, Int.reduceToNat, Int.reduceEq, ne_eq, eq_self]
    rw [← toK_0]
    rfl
  rintro x st' ⟨rfl, ρ, rfl, h1, h2⟩
  simp only [h1, h2, AL, T3, T4, T39, T40, T49, T57, EL, List.replicate_succ, stepD, accs, accP, accW, simpleOp, isAl, isExt, flipD, D.fresh1, D.row, D.plain, D.plain.plainL, St.close, St.close1, St.borrow, retV, resV, resL, outCL, outC, outL, outD, wantedV, opV, An.mid, thawV, D.plainU, prune, envOf, get, put, eval, evalT, nz, argsV, capsV, ofV, binV, binV.aggV, unV, intV, eqOp, isConst, natV, optV, loadV, loadC, storeV, St.at_, partV, partTy, indexAddrV, fieldAddrV, sliceV, sliceV.rowSl, sliceV.strSl, bounds, cutP, builtinV, lenV, maxL, maxV, appendV, St.elems, roomy, rowOf, rowS, isStr, esz, tdOf, convV, buildV, fillV, partsV, okParts, fillL, D.whole, D.demoteC, D.demote, demoteL, D.global, D.flat, D.leaf, D.cells, TI.agg, TD.rowish, callOpV, moveL, CC, keepB, St.borrowL, St.borrow, D.isLsl, adoptR, adoptC, adoptCL, adoptL, adopt, List.toArray, Array.toList, Nat.reduceEqDiff, Nat.reduceAdd, Nat.reduceSub, Nat.reduceMul, Nat.reduceLeDiff, Nat.reduceLT, reduceIte, reduceCtorEq, forall_const, imp_self, Int.reduceNeg, Int.reduceLT, Int.reduceLE, Int.reduceGT, Int.reduceGE, Int.reduceAdd, Int.reduceSub, Int.reduceMul, Int.reduceToNat, Int.reduceEq, ne_eq, eq_self]
theorem c68 (hC : Ref31 C) (t : Nat → Bool) (B : Hp) : C 68 [.agg (bools 256 t)] B = some (.agg (nums .u16 16 (toS t)), B) := hC.f68 _ _ _ (run68 C t B)

end Go.Proofs.YtbbbhalmlboapaaDoor.V
