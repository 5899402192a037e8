/-
Layer 3, for other layers: the document's Get.
-/
import Derived.Test.YtfkhijjabkhmmaaDoorYB
namespace Go.Proofs.YtfkhijjabkhmmaaDoor.V
open Go Go.RowKit
set_option linter.unusedSimpArgs false
set_option linter.unusedVariables false

variable {C : Callees}

/-! ### The plain law -/
def endS : List UInt8 → Nat → Nat
  | [], k => k
  | c :: r, k => if k = 10 then 10 else if 127 < c.toNat then endS r (k + 1) else k

def valS : List UInt8 → Nat
  | [] => 0
  | c :: r => c.toNat % 128 + 128 * valS r

def refS (l : List UInt8) : Nat × Nat × Nat :=
  let e := endS l 0
  if e = 10 ∨ (e = 9 ∧ 9 < l.length ∧ 1 < (l.getD 9 0).toNat) then (0, 0, 2) else if l.length ≤ e then (0, 0, 6) else if 0 < e ∧ (l.getD e 0).toNat = 0 then (0, 0, 3) else (valS (l.take (e + 1)), e + 1, 0)

theorem endS_10 : ∀ r : List UInt8, endS r 10 = 10
  | [] => rfl
  | c :: r => by simp [endS]

theorem endS_ge : ∀ (r : List UInt8) (k : Nat), k ≤ 10 → k ≤ endS r k ∧ endS r k ≤ 10
  | [], k, h => ⟨Nat.le_refl _, h⟩
  | c :: r, k, h => by
    simp only [endS]
    split
    · omega
    · split
      · have := endS_ge r (k + 1) (by omega); omega
      · omega

theorem get_ref : ∀ (r : List UInt8) (k v : Nat), k ≤ 9 → vgetS r k v =
    if endS r k = 10 ∨ (endS r k = 9 ∧ 9 < k + r.length ∧ 1 < (r.getD (9 - k) 0).toNat) then (0, 0, 2) else if k + r.length ≤ endS r k then (0, 0, 6) else
      if 0 < endS r k ∧ (r.getD (endS r k - k) 0).toNat = 0 then (0, 0, 3) else (v + 128 ^ k * valS (r.take (endS r k + 1 - k)), endS r k + 1, 0)
  | [], k, v, hk => by
    have h1 : ¬ k = 10 := by omega
    simp [vgetS, endS, h1]
  | c :: r, k, v, hk => by
    have hc := c.toNat_lt
    have h10 : ¬ k = 10 := by omega
    simp only [vgetS, endS, if_neg h10]
    by_cases h127 : 127 < c.toNat
    · rw [if_pos h127]
      by_cases hk9 : k = 9
      · subst hk9
        rw [if_pos ⟨rfl, by omega⟩, endS_10]
        simp
      · rw [if_neg (by omega), if_neg (by omega), if_neg (by omega), get_ref r (k + 1) _ (by omega)]
        have hge := endS_ge r (k + 1) (by omega)
        have e1 : 9 - k = (9 - (k + 1)) + 1 := by omega
        have e2 : endS r (k + 1) - k = (endS r (k + 1) - (k + 1)) + 1 := by omega
        have e3 : endS r (k + 1) + 1 - k = (endS r (k + 1) + 1 - (k + 1)) + 1 := by omega
        have e4 : k + 1 + r.length = k + (c :: r).length := by simp; omega
        have e5 : v + (c.toNat - 128) * 128 ^ k + 128 ^ (k + 1) * valS (r.take (endS r (k + 1) + 1 - (k + 1))) = v + 128 ^ k * valS ((c :: r).take (endS r (k + 1) + 1 - k)) := by
          rw [e3, List.take_succ_cons, valS, show c.toNat % 128 = c.toNat - 128 by omega, Nat.pow_succ, Nat.mul_add, Nat.mul_assoc]
          rw [Nat.mul_comm (c.toNat - 128)]; omega
        rw [e4, e5, e1, List.getD_cons_succ, e2, List.getD_cons_succ]
    · rw [if_neg h127]
      have e3 : k + 1 - k = 1 := by omega
      have e4 : c.toNat % 128 = c.toNat := by omega
      simp only [Nat.sub_self, List.getD_cons_zero, e3, List.take_succ_cons, List.take_zero, valS, Nat.mul_zero, Nat.add_zero, e4, List.length_cons, h10, false_or]
      by_cases h1 : k = 9 ∧ 1 < c.toNat
      · obtain ⟨rfl, h1⟩ := h1
        simp [h1]
      · have g1 : ¬ (k = 9 ∧ 9 < k + (r.length + 1) ∧ 1 < ((c :: r).getD (9 - k) 0).toNat) := by
          rintro ⟨h, _, h2⟩
          subst h
          exact h1 ⟨rfl, by simpa using h2⟩
        have g2 : ¬ k + (r.length + 1) ≤ k := by omega
        have g3 : c.toNat < 128 := by omega
        by_cases h2 : c.toNat = 0 ∧ 0 < k
        · rw [if_neg h1, if_pos h2, if_neg g1, if_neg g2, if_pos ⟨h2.2, h2.1⟩]
        · rw [if_neg h1, if_neg h2, if_pos g3, if_neg g1, if_neg g2, if_neg (fun h => h2 ⟨h.2, h.1⟩), Nat.mul_comm]

theorem vgetS_ref (l : List UInt8) : vgetS l 0 0 = refS l := by
  rw [get_ref l 0 0 (by omega)]
  simp [refS]

theorem valS_drop (xs : List UInt8) : ∀ j, valS (xs.drop j) ≤ valS xs
  | 0 => by simp
  | j + 1 => by
    cases xs with
    | nil => simp
    | cons c r =>
      have := valS_drop r j
      simp only [List.drop_succ_cons, valS]; omega

theorem valS_lt : ∀ xs : List UInt8, valS xs < 128 ^ xs.length
  | [] => by simp [valS]
  | c :: r => by
    have := valS_lt r
    simp only [valS, List.length_cons, Nat.pow_succ]
    have h := Nat.mod_lt c.toNat (by omega : 0 < 128)
    omega

theorem valS_append (xs ys : List UInt8) : valS (xs ++ ys) = valS xs + 128 ^ xs.length * valS ys := by
  induction xs with
  | nil => simp [valS]
  | cons c r ih =>
    simp only [List.cons_append, valS, ih, List.length_cons, Nat.pow_succ]
    rw [Nat.mul_add, ← Nat.mul_assoc, Nat.mul_comm 128 (128 ^ r.length)]; omega

/-! ### The walk: where the last byte is -/
def stA73 (l : List UInt8) (d : D) (k : Nat) (B : Hp) : St := ⟨[(0, d), (5, .int .i64 k)], [], [], B⟩

set_option maxRecDepth 10000 in
theorem bodyA73_end (C : Callees) (l : List UInt8) (k : Nat) (B : Hp) (hk : l.length ≤ k ∨ 10 ≤ k ∨ ∃ c, l[k]? = some c ∧ ¬ 127 < c.toNat) :
    ∃ ρ, go T an73 C lp73_0 .top (stA73 l (bvV l .none) k B) = some (.exit 0, ⟨ρ, [], [], B⟩) ∧ get ρ 0 = bvV l .none ∧ get ρ 5 = .int .i64 k := by
  by_cases h1 : l.length ≤ k
  · have g1 : ¬ (k : Int) < l.length := by omega
    simp only [stA73, lp73_0, subC, atC, Tryd.f73, an73, g1, T3, T5, T23, T84, EL, e_finWf, e_finWt, e_finMN, e_finMX, retM, meltV, tupV, D.asBox, D.row1, D.freeR, D.freeO, List.replicate_succ, stepD, accs, accP, accW, simpleOp, isAl, isExt, flipD, D.fresh1, D.row, D.plain, D.plain.plainL, St.close, St.close1, St.borrow, retV, resV, resL, outCL, outC, outL, outD, wantedV, opV, An.mid, thawV, St.settle, D.plainU, prune, envOf, get, put, eval, evalT, nz, argsV, capsV, ofV, binV, binV.aggV, unV, intV, eqOp, isConst, natV, optV, loadV, loadC, storeV, setC, St.at_, partV, partTy, indexAddrV, fieldAddrV, sliceV, sliceV.rowSl, sliceV.strSl, bounds, cutP, builtinV, lenV, maxL, maxV, appendV, St.elems, roomy, rowOf, rowS, isStr, esz, tdOf, convV, buildV, fillV, partsV, okParts, fillL, D.whole, D.demoteC, D.demote, demoteL, D.global, D.flat, D.leaf, D.cells, TI.agg, TD.rowish, callOpV, moveL, CC, keepB, St.borrowL, St.borrow, D.isLsl, adoptR, adoptC, adoptCL, adoptL, adopt, List.toArray, Array.toList, Nat.reduceEqDiff, Nat.reduceAdd, Nat.reduceSub, Nat.reduceMul, Nat.reduceLeDiff, Nat.reduceLT, reduceIte, reduceCtorEq, forall_const, imp_self, Int.reduceNeg, Int.reduceLT, Int.reduceLE, Int.reduceGT, Int.reduceGE, Int.reduceAdd, Int.reduceSub, Int.reduceMul, Int.reduceToNat, Int.reduceEq, ne_eq, eq_self]
    exact ⟨_, rfl, rfl, rfl⟩
  · have g1 : (k : Int) < l.length := by omega
    by_cases h2 : 10 ≤ k
    · have g2 : ¬ (k : Int) < 10 := by omega
      simp only [stA73, lp73_0, subC, atC, Tryd.f73, an73, g1, g2, T3, T5, T23, T84, EL, e_finWf, e_finWt, e_finMN, e_finMX, retM, meltV, tupV, D.asBox, D.row1, D.freeR, D.freeO, List.replicate_succ, stepD, accs, accP, accW, simpleOp, isAl, isExt, flipD, D.fresh1, D.row, D.plain, D.plain.plainL, St.close, St.close1, St.borrow, retV, resV, resL, outCL, outC, outL, outD, wantedV, opV, An.mid, thawV, St.settle, D.plainU, prune, envOf, get, put, eval, evalT, nz, argsV, capsV, ofV, binV, binV.aggV, unV, intV, eqOp, isConst, natV, optV, loadV, loadC, storeV, setC, St.at_, partV, partTy, indexAddrV, fieldAddrV, sliceV, sliceV.rowSl, sliceV.strSl, bounds, cutP, builtinV, lenV, maxL, maxV, appendV, St.elems, roomy, rowOf, rowS, isStr, esz, tdOf, convV, buildV, fillV, partsV, okParts, fillL, D.whole, D.demoteC, D.demote, demoteL, D.global, D.flat, D.leaf, D.cells, TI.agg, TD.rowish, callOpV, moveL, CC, keepB, St.borrowL, St.borrow, D.isLsl, adoptR, adoptC, adoptCL, adoptL, adopt, List.toArray, Array.toList, Nat.reduceEqDiff, Nat.reduceAdd, Nat.reduceSub, Nat.reduceMul, Nat.reduceLeDiff, Nat.reduceLT, reduceIte, reduceCtorEq, forall_const, imp_self, Int.reduceNeg, Int.reduceLT, Int.reduceLE, Int.reduceGT, Int.reduceGE, Int.reduceAdd, Int.reduceSub, Int.reduceMul, Int.reduceToNat, Int.reduceEq, ne_eq, eq_self]
      exact ⟨_, rfl, rfl, rfl⟩
    · have g2 : (k : Int) < 10 := by omega
      obtain ⟨c, hc, hl⟩ := (hk.resolve_left h1).resolve_left h2
      have g3 : ¬ (c.toNat : Int) > 127 := by omega
      have g4 : (0 : Int) ≤ k := by omega
      simp only [stA73, lp73_0, subC, atC, Tryd.f73, an73, g1, g2, g3, g4, List.getElem?_map, Int.toNat_natCast, hc, Option.map_some, byteD, T3, T5, T23, T84, EL, e_finWf, e_finWt, e_finMN, e_finMX, retM, meltV, tupV, D.asBox, D.row1, D.freeR, D.freeO, List.replicate_succ, stepD, accs, accP, accW, simpleOp, isAl, isExt, flipD, D.fresh1, D.row, D.plain, D.plain.plainL, St.close, St.close1, St.borrow, retV, resV, resL, outCL, outC, outL, outD, wantedV, opV, An.mid, thawV, St.settle, D.plainU, prune, envOf, get, put, eval, evalT, nz, argsV, capsV, ofV, binV, binV.aggV, unV, intV, eqOp, isConst, natV, optV, loadV, loadC, storeV, setC, St.at_, partV, partTy, indexAddrV, fieldAddrV, sliceV, sliceV.rowSl, sliceV.strSl, bounds, cutP, builtinV, lenV, maxL, maxV, appendV, St.elems, roomy, rowOf, rowS, isStr, esz, tdOf, convV, buildV, fillV, partsV, okParts, fillL, D.whole, D.demoteC, D.demote, demoteL, D.global, D.flat, D.leaf, D.cells, TI.agg, TD.rowish, callOpV, moveL, CC, keepB, St.borrowL, St.borrow, D.isLsl, adoptR, adoptC, adoptCL, adoptL, adopt, List.toArray, Array.toList, Nat.reduceEqDiff, Nat.reduceAdd, Nat.reduceSub, Nat.reduceMul, Nat.reduceLeDiff, Nat.reduceLT, reduceIte, reduceCtorEq, forall_const, imp_self, Int.reduceNeg, Int.reduceLT, Int.reduceLE, Int.reduceGT, Int.reduceGE, Int.reduceAdd, Int.reduceSub, Int.reduceMul, Int.reduceToNat, Int.reduceEq, ne_eq, eq_self]
      exact ⟨_, rfl, rfl, rfl⟩

set_option maxRecDepth 10000 in
theorem bodyA73_ok (C : Callees) (l : List UInt8) (k : Nat) (B : Hp) (c : UInt8) (hc : l[k]? = some c) (hl : 127 < c.toNat) (hk : k < 10) :
    ∃ ρ, go T an73 C lp73_0 .top (stA73 l (bvV l .none) k B) = some (.norm, ⟨ρ, [], [], B⟩) ∧ an73.at_ (some 2) ⟨ρ, [], [], B⟩ = stA73 l (bvV l .none) (k + 1) B := by
  have g1 : (k : Int) < l.length := by have := (List.getElem?_eq_some_iff.1 hc).1; omega
  have g2 : (k : Int) < 10 := by omega
  have g3 : (c.toNat : Int) > 127 := by omega
  have g4 : (0 : Int) ≤ k := by omega
  have g5 := wrapI (x := (k : Int) + 1) (by omega) (by omega)
  simp only [stA73, lp73_0, subC, atC, Tryd.f73, an73, g1, g2, g3, g4, g5, List.getElem?_map, Int.toNat_natCast, hc, Option.map_some, byteD, T3, T5, T23, T84, EL, e_finWf, e_finWt, e_finMN, e_finMX, retM, meltV, tupV, D.asBox, D.row1, D.freeR, D.freeO, List.replicate_succ, stepD, accs, accP, accW, simpleOp, isAl, isExt, flipD, D.fresh1, D.row, D.plain, D.plain.plainL, St.close, St.close1, St.borrow, retV, resV, resL, outCL, outC, outL, outD, wantedV, opV, An.mid, thawV, St.settle, D.plainU, prune, envOf, get, put, eval, evalT, nz, argsV, capsV, ofV, binV, binV.aggV, unV, intV, eqOp, isConst, natV, optV, loadV, loadC, storeV, setC, St.at_, partV, partTy, indexAddrV, fieldAddrV, sliceV, sliceV.rowSl, sliceV.strSl, bounds, cutP, builtinV, lenV, maxL, maxV, appendV, St.elems, roomy, rowOf, rowS, isStr, esz, tdOf, convV, buildV, fillV, partsV, okParts, fillL, D.whole, D.demoteC, D.demote, demoteL, D.global, D.flat, D.leaf, D.cells, TI.agg, TD.rowish, callOpV, moveL, CC, keepB, St.borrowL, St.borrow, D.isLsl, adoptR, adoptC, adoptCL, adoptL, adopt, List.toArray, Array.toList, Nat.reduceEqDiff, Nat.reduceAdd, Nat.reduceSub, Nat.reduceMul, Nat.reduceLeDiff, Nat.reduceLT, reduceIte, reduceCtorEq, forall_const, imp_self, Int.reduceNeg, Int.reduceLT, Int.reduceLE, Int.reduceGT, Int.reduceGE, Int.reduceAdd, Int.reduceSub, Int.reduceMul, Int.reduceToNat, Int.reduceEq, ne_eq, eq_self]
  exact ⟨_, rfl, rfl⟩

theorem loopA73 (C : Callees) (l : List UInt8) (B : Hp) : ∀ (m k : Nat) (st : St), l.length - k = m → k ≤ l.length → k ≤ 10 → an73.at_ (some 2) st = stA73 l (bvV l .none) k B →
    ∃ x st', loopC T an73 C lp73_0 st = some (x, st') ∧ ∃ ρ, st' = ⟨ρ, [], [], B⟩ ∧ x = .exit 0 ∧ get ρ 0 = bvV l .none ∧ get ρ 5 = .int .i64 (endS (l.drop k) k : Nat) := by
  intro m
  induction m with
  | zero =>
    intro k st hm hk h10 hst
    obtain rfl : k = l.length := by omega
    obtain ⟨ρ, h, hg1, hg2⟩ := bodyA73_end C l l.length B (.inl (Nat.le_refl _))
    exact ⟨_, _, loopC_done (by rw [show firstOf lp73_0 = some 2 from rfl, hst]; exact h) (by simp), ρ, rfl, rfl, hg1, by simpa [endS] using hg2⟩
  | succ m ih =>
    intro k st hm hk h10 hst
    have hkn := List.getElem?_eq_getElem (l := l) (i := k) (by omega)
    rw [List.drop_eq_getElem_cons (by omega : k < l.length)]
    generalize l[k] = c at hkn ⊢
    simp only [endS]
    by_cases hk10 : k = 10
    · subst hk10
      obtain ⟨ρ, h, hg1, hg2⟩ := bodyA73_end C l 10 B (.inr (.inl (Nat.le_refl _)))
      exact ⟨_, _, loopC_done (by rw [show firstOf lp73_0 = some 2 from rfl, hst]; exact h) (by simp), ρ, rfl, rfl, hg1, by simpa using hg2⟩
    · rw [if_neg hk10]
      by_cases hc : 127 < c.toNat
      · rw [if_pos hc]
        obtain ⟨ρ, h, hg⟩ := bodyA73_ok C l k B c hkn hc (by omega)
        obtain ⟨x, st', h4, ρ', h5, h6⟩ := ih (k + 1) ⟨ρ, [], [], B⟩ (by omega) (by omega) (by omega) hg
        exact ⟨x, st', loopC_next (by rw [show firstOf lp73_0 = some 2 from rfl, hst]; exact h) h4, ρ', h5, h6⟩
      · rw [if_neg hc]
        obtain ⟨ρ, h, hg1, hg2⟩ := bodyA73_end C l k B (.inr (.inr ⟨c, hkn, hc⟩))
        exact ⟨_, _, loopC_done (by rw [show firstOf lp73_0 = some 2 from rfl, hst]; exact h) (by simp), ρ, rfl, rfl, hg1, hg2⟩

/-! ### The number, from its last byte on -/
def stB73 (d : D) (e v : Nat) (i : Int) (B : Hp) : St := ⟨[(0, d), (5, .int .i64 e), (6, .int .u64 v), (7, .int .i64 i)], [], [], B⟩

set_option maxRecDepth 10000 in
theorem bodyB73_end (C : Callees) (d : D) (e v : Nat) (B : Hp) :
    ∃ ρ, go T an73 C lp73_1 .top (stB73 d e v (-1) B) = some (.exit 2, ⟨ρ, [], [], B⟩) ∧ get ρ 5 = .int .i64 e ∧ get ρ 6 = .int .u64 v := by
  have h : ¬ (-1 : Int) ≥ 0 := by omega
  simp only [stB73, lp73_1, subC, atC, Tryd.f73, an73, h, T3, T5, T23, T84, EL, e_finWf, e_finWt, e_finMN, e_finMX, retM, meltV, tupV, D.asBox, D.row1, D.freeR, D.freeO, List.replicate_succ, stepD, accs, accP, accW, simpleOp, isAl, isExt, flipD, D.fresh1, D.row, D.plain, D.plain.plainL, St.close, St.close1, St.borrow, retV, resV, resL, outCL, outC, outL, outD, wantedV, opV, An.mid, thawV, St.settle, D.plainU, prune, envOf, get, put, eval, evalT, nz, argsV, capsV, ofV, binV, binV.aggV, unV, intV, eqOp, isConst, natV, optV, loadV, loadC, storeV, setC, St.at_, partV, partTy, indexAddrV, fieldAddrV, sliceV, sliceV.rowSl, sliceV.strSl, bounds, cutP, builtinV, lenV, maxL, maxV, appendV, St.elems, roomy, rowOf, rowS, isStr, esz, tdOf, convV, buildV, fillV, partsV, okParts, fillL, D.whole, D.demoteC, D.demote, demoteL, D.global, D.flat, D.leaf, D.cells, TI.agg, TD.rowish, callOpV, moveL, CC, keepB, St.borrowL, St.borrow, D.isLsl, adoptR, adoptC, adoptCL, adoptL, adopt, List.toArray, Array.toList, Nat.reduceEqDiff, Nat.reduceAdd, Nat.reduceSub, Nat.reduceMul, Nat.reduceLeDiff, Nat.reduceLT, reduceIte, reduceCtorEq, forall_const, imp_self, Int.reduceNeg, Int.reduceLT, Int.reduceLE, Int.reduceGT, Int.reduceGE, Int.reduceAdd, Int.reduceSub, Int.reduceMul, Int.reduceToNat, Int.reduceEq, ne_eq, eq_self]
  exact ⟨_, rfl, rfl, rfl⟩

set_option maxRecDepth 10000 in
theorem bodyB73_ok (C : Callees) (l : List UInt8) (e v i : Nat) (B : Hp) (c : UInt8) (hc : l[i]? = some c) (hi : i ≤ 9) (hv : c.toNat % 128 + 128 * v < 18446744073709551616) :
    ∃ ρ, go T an73 C lp73_1 .top (stB73 (bvV l .none) e v i B) = some (.norm, ⟨ρ, [], [], B⟩) ∧ an73.at_ (some 12) ⟨ρ, [], [], B⟩ = stB73 (bvV l .none) e (c.toNat % 128 + 128 * v) ((i : Int) - 1) B := by
  have g1 : (i : Int) ≥ 0 := by omega
  have g0 : (0 : Int) ≤ i := by omega
  have g2 := wrap_u64 (x := 128 * (v : Int)) (by omega) (by omega)
  have g3 : IntKind.u64.wrap ((c.toNat : Int).tmod 128) = ((c.toNat % 128 : Nat) : Int) := by
    rw [Int.tmod_eq_emod_of_nonneg (by omega), wrap_u64 (by omega) (by omega)]; omega
  have g4 : IntKind.u64.wrap (128 * (v : Int) + ((c.toNat % 128 : Nat) : Int)) = ((c.toNat % 128 + 128 * v : Nat) : Int) := by
    rw [wrap_u64 (by omega) (by omega)]; omega
  have g5 := wrapI (x := (i : Int) - 1) (by omega) (by omega)
  simp only [stB73, lp73_1, subC, atC, Tryd.f73, an73, g0, g1, g2, g3, g4, g5, List.getElem?_map, Int.toNat_natCast, hc, Option.map_some, byteD, T3, T5, T23, T84, EL, e_finWf, e_finWt, e_finMN, e_finMX, retM, meltV, tupV, D.asBox, D.row1, D.freeR, D.freeO, List.replicate_succ, stepD, accs, accP, accW, simpleOp, isAl, isExt, flipD, D.fresh1, D.row, D.plain, D.plain.plainL, St.close, St.close1, St.borrow, retV, resV, resL, outCL, outC, outL, outD, wantedV, opV, An.mid, thawV, St.settle, D.plainU, prune, envOf, get, put, eval, evalT, nz, argsV, capsV, ofV, binV, binV.aggV, unV, intV, eqOp, isConst, natV, optV, loadV, loadC, storeV, setC, St.at_, partV, partTy, indexAddrV, fieldAddrV, sliceV, sliceV.rowSl, sliceV.strSl, bounds, cutP, builtinV, lenV, maxL, maxV, appendV, St.elems, roomy, rowOf, rowS, isStr, esz, tdOf, convV, buildV, fillV, partsV, okParts, fillL, D.whole, D.demoteC, D.demote, demoteL, D.global, D.flat, D.leaf, D.cells, TI.agg, TD.rowish, callOpV, moveL, CC, keepB, St.borrowL, St.borrow, D.isLsl, adoptR, adoptC, adoptCL, adoptL, adopt, List.toArray, Array.toList, Nat.reduceEqDiff, Nat.reduceAdd, Nat.reduceSub, Nat.reduceMul, Nat.reduceLeDiff, Nat.reduceLT, reduceIte, reduceCtorEq, forall_const, imp_self, Int.reduceNeg, Int.reduceLT, Int.reduceLE, Int.reduceGT, Int.reduceGE, Int.reduceAdd, Int.reduceSub, Int.reduceMul, Int.reduceToNat, Int.reduceEq, ne_eq, eq_self]
  exact ⟨_, rfl, rfl⟩

theorem loopB73 (C : Callees) (l : List UInt8) (e : Nat) (he : e < l.length) (h9 : e ≤ 9) (hval : valS (l.take (e + 1)) < 18446744073709551616) (B : Hp) : ∀ (i : Nat) (st : St), i ≤ e + 1 →
    an73.at_ (some 12) st = stB73 (bvV l .none) e (valS ((l.take (e + 1)).drop i)) ((i : Int) - 1) B →
    ∃ x st', loopC T an73 C lp73_1 st = some (x, st') ∧ ∃ ρ, st' = ⟨ρ, [], [], B⟩ ∧ x = .exit 2 ∧ get ρ 5 = .int .i64 e ∧ get ρ 6 = .int .u64 (valS (l.take (e + 1)) : Nat) := by
  intro i
  induction i with
  | zero =>
    intro st hi hst
    obtain ⟨ρ, h, hg1, hg2⟩ := bodyB73_end C (bvV l .none) e (valS (l.take (e + 1))) B
    exact ⟨_, _, loopC_done (by rw [show firstOf lp73_1 = some 12 from rfl, hst]; exact h) (by simp), ρ, rfl, rfl, hg1, hg2⟩
  | succ i ih =>
    intro st hi hst
    have hk := List.getElem?_eq_getElem (l := l) (i := i) (by omega)
    generalize hcc : l[i] = c at hk
    have hd : (l.take (e + 1)).drop i = c :: (l.take (e + 1)).drop (i + 1) := by
      rw [List.drop_eq_getElem_cons (by simp; omega)]
      congr 1
      rw [List.getElem_take]; exact hcc
    have hle := valS_drop (l.take (e + 1)) i
    have hv : valS ((l.take (e + 1)).drop i) = c.toNat % 128 + 128 * valS ((l.take (e + 1)).drop (i + 1)) := by rw [hd, valS]
    have hi1 : (((i + 1 : Nat) : Int) - 1) = (i : Int) := by omega
    rw [hi1] at hst
    obtain ⟨ρ, h, hg⟩ := bodyB73_ok C l e (valS ((l.take (e + 1)).drop (i + 1))) i B c hk (by omega) (by omega)
    obtain ⟨x, st', h4, h5⟩ := ih ⟨ρ, [], [], B⟩ (by omega) (by rw [hg, hv])
    exact ⟨x, st', loopC_next (by rw [show firstOf lp73_1 = some 12 from rfl, hst]; exact h) h4, h5⟩

def refD (l : List UInt8) : D := .tuple [.int .u64 (refS l).1, .int .i64 (refS l).2.1, .int .i64 (refS l).2.2]

set_option maxRecDepth 10000 in
theorem run73 (C : Callees) (l : List UInt8) (B : Hp) (hl : l.length ≤ 1000000) : runV T C fi73 [bvV l .none] B = some (refD l, B) := by
  rw [e_run _ _ _ rfl]
  simp only [fi73, Tryd.f73, an73, T3, T5, T23, T84, EL, e_finWf, e_finWt, e_finMN, e_finMX, retM, meltV, tupV, D.asBox, D.row1, D.freeR, D.freeO, List.replicate_succ, stepD, accs, accP, accW, simpleOp, isAl, isExt, flipD, D.fresh1, D.row, D.plain, D.plain.plainL, St.close, St.close1, St.borrow, retV, resV, resL, outCL, outC, outL, outD, wantedV, opV, An.mid, thawV, St.settle, D.plainU, prune, envOf, get, put, eval, evalT, nz, argsV, capsV, ofV, binV, binV.aggV, unV, intV, eqOp, isConst, natV, optV, loadV, loadC, storeV, setC, St.at_, partV, partTy, indexAddrV, fieldAddrV, sliceV, sliceV.rowSl, sliceV.strSl, bounds, cutP, builtinV, lenV, maxL, maxV, appendV, St.elems, roomy, rowOf, rowS, isStr, esz, tdOf, convV, buildV, fillV, partsV, okParts, fillL, D.whole, D.demoteC, D.demote, demoteL, D.global, D.flat, D.leaf, D.cells, TI.agg, TD.rowish, callOpV, moveL, CC, keepB, St.borrowL, St.borrow, D.isLsl, adoptR, adoptC, adoptCL, adoptL, adopt, List.toArray, Array.toList, Nat.reduceEqDiff, Nat.reduceAdd, Nat.reduceSub, Nat.reduceMul, Nat.reduceLeDiff, Nat.reduceLT, reduceIte, reduceCtorEq, forall_const, imp_self, Int.reduceNeg, Int.reduceLT, Int.reduceLE, Int.reduceGT, Int.reduceGE, Int.reduceAdd, Int.reduceSub, Int.reduceMul, Int.reduceToNat, Int.reduceEq, ne_eq, eq_self]
  refine' in_loop (c' := lp73_0) (fin T _ _ _) ?h2 rfl ?q2
  case h2 => exact loopA73 C l B l.length 0 _ rfl (by omega) (by omega) rfl
  rintro x st' ⟨ρ, rfl, rfl, hg1, hg2⟩
  rw [List.drop_zero] at hg2
  have he10 := (endS_ge l 0 (by omega)).2
  unfold refD refS
  simp only []
  generalize endS l 0 = e at hg2 he10 ⊢
  have z0 : (0 : Int) ≤ e := by omega
  have tailV : ∀ (st : St) (hst : an73.at_ (some 12) st = stB73 (bvV l .none) e 0 (e : Int) B) (he : e < l.length) (h9 : e ≤ 9) (hval : valS (l.take (e + 1)) < 18446744073709551616), ∃ x st', loopC T an73 C lp73_1 st = some (x, st') ∧ ∃ ρ, st' = ⟨ρ, [], [], B⟩ ∧ x = .exit 2 ∧ get ρ 5 = .int .i64 e ∧ get ρ 6 = .int .u64 (valS (l.take (e + 1)) : Nat) := fun st hst he h9 hval => by
    refine loopB73 C l e he h9 hval B (e + 1) st (Nat.le_refl _) ?_
    rw [List.drop_eq_nil_of_le (by simp; omega), show (((e + 1 : Nat) : Int) - 1) = e by omega]
    exact hst
  by_cases c10 : e = 10
  · subst c10
    rw [if_pos (.inl rfl)]
    have k10 : ((10 : Nat) : Int) = 10 := rfl
    simp only [hg1, hg2, k10, T3, T5, T23, T84, EL, e_finWf, e_finWt, e_finMN, e_finMX, retM, meltV, tupV, D.asBox, D.row1, D.freeR, D.freeO, List.replicate_succ, stepD, accs, accP, accW, simpleOp, isAl, isExt, flipD, D.fresh1, D.row, D.plain, D.plain.plainL, St.close, St.close1, St.borrow, retV, resV, resL, outCL, outC, outL, outD, wantedV, opV, An.mid, thawV, St.settle, D.plainU, prune, envOf, get, put, eval, evalT, nz, argsV, capsV, ofV, binV, binV.aggV, unV, intV, eqOp, isConst, natV, optV, loadV, loadC, storeV, setC, St.at_, partV, partTy, indexAddrV, fieldAddrV, sliceV, sliceV.rowSl, sliceV.strSl, bounds, cutP, builtinV, lenV, maxL, maxV, appendV, St.elems, roomy, rowOf, rowS, isStr, esz, tdOf, convV, buildV, fillV, partsV, okParts, fillL, D.whole, D.demoteC, D.demote, demoteL, D.global, D.flat, D.leaf, D.cells, TI.agg, TD.rowish, callOpV, moveL, CC, keepB, St.borrowL, St.borrow, D.isLsl, adoptR, adoptC, adoptCL, adoptL, adopt, List.toArray, Array.toList, Nat.reduceEqDiff, Nat.reduceAdd, Nat.reduceSub, Nat.reduceMul, Nat.reduceLeDiff, Nat.reduceLT, reduceIte, reduceCtorEq, forall_const, imp_self, Int.reduceNeg, Int.reduceLT, Int.reduceLE, Int.reduceGT, Int.reduceGE, Int.reduceAdd, Int.reduceSub, Int.reduceMul, Int.reduceToNat, Int.reduceEq, ne_eq, eq_self]
    rfl
  have k10 : ¬ (e : Int) = 10 := by omega
  by_cases cr : e = 9 ∧ 9 < l.length ∧ 1 < (l.getD 9 0).toNat
  · rw [if_pos (.inr cr)]
    obtain ⟨c9, cl, cb⟩ := cr
    subst c9
    have hk := List.getElem?_eq_getElem (l := l) (i := 9) cl
    rw [List.getD_eq_getElem?_getD, hk] at cb
    generalize l[9] = b at hk cb
    have k1 : ((9 : Nat) : Int) = 9 := rfl
    have k2 : (l.length : Int) > 9 := by omega
    have k3 : (b.toNat : Int) > 1 := by simp at cb; omega
    simp only [hg1, hg2, k1, k2, k3, List.getElem?_map, hk, Option.map_some, byteD, T3, T5, T23, T84, EL, e_finWf, e_finWt, e_finMN, e_finMX, retM, meltV, tupV, D.asBox, D.row1, D.freeR, D.freeO, List.replicate_succ, stepD, accs, accP, accW, simpleOp, isAl, isExt, flipD, D.fresh1, D.row, D.plain, D.plain.plainL, St.close, St.close1, St.borrow, retV, resV, resL, outCL, outC, outL, outD, wantedV, opV, An.mid, thawV, St.settle, D.plainU, prune, envOf, get, put, eval, evalT, nz, argsV, capsV, ofV, binV, binV.aggV, unV, intV, eqOp, isConst, natV, optV, loadV, loadC, storeV, setC, St.at_, partV, partTy, indexAddrV, fieldAddrV, sliceV, sliceV.rowSl, sliceV.strSl, bounds, cutP, builtinV, lenV, maxL, maxV, appendV, St.elems, roomy, rowOf, rowS, isStr, esz, tdOf, convV, buildV, fillV, partsV, okParts, fillL, D.whole, D.demoteC, D.demote, demoteL, D.global, D.flat, D.leaf, D.cells, TI.agg, TD.rowish, callOpV, moveL, CC, keepB, St.borrowL, St.borrow, D.isLsl, adoptR, adoptC, adoptCL, adoptL, adopt, List.toArray, Array.toList, Nat.reduceEqDiff, Nat.reduceAdd, Nat.reduceSub, Nat.reduceMul, Nat.reduceLeDiff, Nat.reduceLT, reduceIte, reduceCtorEq, forall_const, imp_self, Int.reduceNeg, Int.reduceLT, Int.reduceLE, Int.reduceGT, Int.reduceGE, Int.reduceAdd, Int.reduceSub, Int.reduceMul, Int.reduceToNat, Int.reduceEq, ne_eq, eq_self]
    rfl
  rw [if_neg (by rintro (h | h); exact c10 h; exact cr h)]
  by_cases cl : l.length ≤ e
  · rw [if_pos cl]
    have k2 : (e : Int) ≥ l.length := by omega
    by_cases c9 : e = 9
    · subst c9
      have k1 : ((9 : Nat) : Int) = 9 := rfl
      have k3 : ¬ (l.length : Int) > 9 := by omega
      rw [k1] at k2
      simp only [hg1, hg2, k1, k2, k3, T3, T5, T23, T84, EL, e_finWf, e_finWt, e_finMN, e_finMX, retM, meltV, tupV, D.asBox, D.row1, D.freeR, D.freeO, List.replicate_succ, stepD, accs, accP, accW, simpleOp, isAl, isExt, flipD, D.fresh1, D.row, D.plain, D.plain.plainL, St.close, St.close1, St.borrow, retV, resV, resL, outCL, outC, outL, outD, wantedV, opV, An.mid, thawV, St.settle, D.plainU, prune, envOf, get, put, eval, evalT, nz, argsV, capsV, ofV, binV, binV.aggV, unV, intV, eqOp, isConst, natV, optV, loadV, loadC, storeV, setC, St.at_, partV, partTy, indexAddrV, fieldAddrV, sliceV, sliceV.rowSl, sliceV.strSl, bounds, cutP, builtinV, lenV, maxL, maxV, appendV, St.elems, roomy, rowOf, rowS, isStr, esz, tdOf, convV, buildV, fillV, partsV, okParts, fillL, D.whole, D.demoteC, D.demote, demoteL, D.global, D.flat, D.leaf, D.cells, TI.agg, TD.rowish, callOpV, moveL, CC, keepB, St.borrowL, St.borrow, D.isLsl, adoptR, adoptC, adoptCL, adoptL, adopt, List.toArray, Array.toList, Nat.reduceEqDiff, Nat.reduceAdd, Nat.reduceSub, Nat.reduceMul, Nat.reduceLeDiff, Nat.reduceLT, reduceIte, reduceCtorEq, forall_const, imp_self, Int.reduceNeg, Int.reduceLT, Int.reduceLE, Int.reduceGT, Int.reduceGE, Int.reduceAdd, Int.reduceSub, Int.reduceMul, Int.reduceToNat, Int.reduceEq, ne_eq, eq_self]
      rfl
    · have k1 : ¬ (e : Int) = 9 := by omega
      simp only [hg1, hg2, k10, k1, k2, T3, T5, T23, T84, EL, e_finWf, e_finWt, e_finMN, e_finMX, retM, meltV, tupV, D.asBox, D.row1, D.freeR, D.freeO, List.replicate_succ, stepD, accs, accP, accW, simpleOp, isAl, isExt, flipD, D.fresh1, D.row, D.plain, D.plain.plainL, St.close, St.close1, St.borrow, retV, resV, resL, outCL, outC, outL, outD, wantedV, opV, An.mid, thawV, St.settle, D.plainU, prune, envOf, get, put, eval, evalT, nz, argsV, capsV, ofV, binV, binV.aggV, unV, intV, eqOp, isConst, natV, optV, loadV, loadC, storeV, setC, St.at_, partV, partTy, indexAddrV, fieldAddrV, sliceV, sliceV.rowSl, sliceV.strSl, bounds, cutP, builtinV, lenV, maxL, maxV, appendV, St.elems, roomy, rowOf, rowS, isStr, esz, tdOf, convV, buildV, fillV, partsV, okParts, fillL, D.whole, D.demoteC, D.demote, demoteL, D.global, D.flat, D.leaf, D.cells, TI.agg, TD.rowish, callOpV, moveL, CC, keepB, St.borrowL, St.borrow, D.isLsl, adoptR, adoptC, adoptCL, adoptL, adopt, List.toArray, Array.toList, Nat.reduceEqDiff, Nat.reduceAdd, Nat.reduceSub, Nat.reduceMul, Nat.reduceLeDiff, Nat.reduceLT, reduceIte, reduceCtorEq, forall_const, imp_self, Int.reduceNeg, Int.reduceLT, Int.reduceLE, Int.reduceGT, Int.reduceGE, Int.reduceAdd, Int.reduceSub, Int.reduceMul, Int.reduceToNat, Int.reduceEq, ne_eq, eq_self]
      rfl
  · rw [if_neg cl]
    have k2 : ¬ (e : Int) ≥ l.length := by omega
    have hk := List.getElem?_eq_getElem (l := l) (i := e) (by omega)
    have hge : (l.getD e 0) = l[e] := by rw [List.getD_eq_getElem?_getD, hk]; rfl
    rw [hge]
    have hv : e ≤ 9 → (e = 9 → l[e].toNat ≤ 1) → valS (l.take (e + 1)) < 18446744073709551616 := fun h9 hb => by
      rw [List.take_add_one, hk]
      simp only [Option.toList_some]
      rw [valS_append]
      have h1 := valS_lt (l.take e)
      have hlen : (l.take e).length = e := by simp; omega
      rw [hlen] at h1 ⊢
      have h2 : valS [l[e]] ≤ l[e].toNat % 128 := by simp [valS]
      have h3 := Nat.mod_lt l[e].toNat (by omega : 0 < 128)
      generalize l[e].toNat = t at h2 h3 hb
      generalize valS [l[e]] = w at h2 ⊢
      generalize valS (l.take e) = u at h1 ⊢
      by_cases he9 : e = 9
      · have := hb he9
        have h4 : w ≤ 1 := by omega
        subst he9
        omega
      · have h4 : (128 : Nat) ^ e ≤ 128 ^ 8 := Nat.pow_le_pow_right (by omega) (by omega)
        have h5 : 128 ^ e * w ≤ 128 ^ 8 * 127 := Nat.mul_le_mul h4 (by omega)
        generalize 128 ^ e * w = q at h5 ⊢
        generalize (128 : Nat) ^ e = q2 at h1 h4
        have : (128 : Nat) ^ 8 = 72057594037927936 := by decide
        omega
    have hb9 : e = 9 → l[e].toNat ≤ 1 := fun h => by
      rcases Nat.lt_or_ge 1 l[e].toNat with h1 | h1
      · exfalso
        apply cr
        refine ⟨h, by omega, ?_⟩
        rw [← h, hge]; exact h1
      · exact h1
    have hval := hv (by omega) hb9
    generalize hcc : l[e] = c at hk hb9
    have k5 : IntKind.i64.wrap ((e : Int) + 1) = ((e + 1 : Nat) : Int) := by rw [wrapI (by omega) (by omega)]; omega
    by_cases cf : 0 < e ∧ c.toNat = 0
    · rw [if_pos cf]
      have k3 : (e : Int) > 0 := by omega
      have k4 : (c.toNat : Int) = 0 := by omega
      by_cases c9 : e = 9
      · subst c9
        have k1 : ((9 : Nat) : Int) = 9 := rfl
        have k6 : (l.length : Int) > 9 := by omega
        have k7 : ¬ (9 : Int) ≥ l.length := by omega
        have z1 : ¬ ((0 : Int) > 1) := by decide
        simp only [hg1, hg2, k1, k6, k7, k4, z1, List.getElem?_map, hk, Option.map_some, byteD, T3, T5, T23, T84, EL, e_finWf, e_finWt, e_finMN, e_finMX, retM, meltV, tupV, D.asBox, D.row1, D.freeR, D.freeO, List.replicate_succ, stepD, accs, accP, accW, simpleOp, isAl, isExt, flipD, D.fresh1, D.row, D.plain, D.plain.plainL, St.close, St.close1, St.borrow, retV, resV, resL, outCL, outC, outL, outD, wantedV, opV, An.mid, thawV, St.settle, D.plainU, prune, envOf, get, put, eval, evalT, nz, argsV, capsV, ofV, binV, binV.aggV, unV, intV, eqOp, isConst, natV, optV, loadV, loadC, storeV, setC, St.at_, partV, partTy, indexAddrV, fieldAddrV, sliceV, sliceV.rowSl, sliceV.strSl, bounds, cutP, builtinV, lenV, maxL, maxV, appendV, St.elems, roomy, rowOf, rowS, isStr, esz, tdOf, convV, buildV, fillV, partsV, okParts, fillL, D.whole, D.demoteC, D.demote, demoteL, D.global, D.flat, D.leaf, D.cells, TI.agg, TD.rowish, callOpV, moveL, CC, keepB, St.borrowL, St.borrow, D.isLsl, adoptR, adoptC, adoptCL, adoptL, adopt, List.toArray, Array.toList, Nat.reduceEqDiff, Nat.reduceAdd, Nat.reduceSub, Nat.reduceMul, Nat.reduceLeDiff, Nat.reduceLT, reduceIte, reduceCtorEq, forall_const, imp_self, Int.reduceNeg, Int.reduceLT, Int.reduceLE, Int.reduceGT, Int.reduceGE, Int.reduceAdd, Int.reduceSub, Int.reduceMul, Int.reduceToNat, Int.reduceEq, ne_eq, eq_self]
        rfl
      · have k1 : ¬ (e : Int) = 9 := by omega
        simp only [hg1, hg2, k10, k1, k2, k3, k4, z0, List.getElem?_map, Int.toNat_natCast, hk, Option.map_some, byteD, T3, T5, T23, T84, EL, e_finWf, e_finWt, e_finMN, e_finMX, retM, meltV, tupV, D.asBox, D.row1, D.freeR, D.freeO, List.replicate_succ, stepD, accs, accP, accW, simpleOp, isAl, isExt, flipD, D.fresh1, D.row, D.plain, D.plain.plainL, St.close, St.close1, St.borrow, retV, resV, resL, outCL, outC, outL, outD, wantedV, opV, An.mid, thawV, St.settle, D.plainU, prune, envOf, get, put, eval, evalT, nz, argsV, capsV, ofV, binV, binV.aggV, unV, intV, eqOp, isConst, natV, optV, loadV, loadC, storeV, setC, St.at_, partV, partTy, indexAddrV, fieldAddrV, sliceV, sliceV.rowSl, sliceV.strSl, bounds, cutP, builtinV, lenV, maxL, maxV, appendV, St.elems, roomy, rowOf, rowS, isStr, esz, tdOf, convV, buildV, fillV, partsV, okParts, fillL, D.whole, D.demoteC, D.demote, demoteL, D.global, D.flat, D.leaf, D.cells, TI.agg, TD.rowish, callOpV, moveL, CC, keepB, St.borrowL, St.borrow, D.isLsl, adoptR, adoptC, adoptCL, adoptL, adopt, List.toArray, Array.toList, Nat.reduceEqDiff, Nat.reduceAdd, Nat.reduceSub, Nat.reduceMul, Nat.reduceLeDiff, Nat.reduceLT, reduceIte, reduceCtorEq, forall_const, imp_self, Int.reduceNeg, Int.reduceLT, Int.reduceLE, Int.reduceGT, Int.reduceGE, Int.reduceAdd, Int.reduceSub, Int.reduceMul, Int.reduceToNat, Int.reduceEq, ne_eq, eq_self]
        rfl
    · rw [if_neg cf]
      have tl := fun st hst => tailV st hst (by omega) (by omega) hval
      have k3 : ¬ ((e : Int) > 0 ∧ (c.toNat : Int) = 0) := by omega
      by_cases c9 : e = 9
      · subst c9
        have k1 : ((9 : Nat) : Int) = 9 := rfl
        have k6 : (l.length : Int) > 9 := by omega
        have k7 : ¬ (9 : Int) ≥ l.length := by omega
        have k8 : ¬ (c.toNat : Int) > 1 := by have := hb9 rfl; omega
        have k4 : ¬ (c.toNat : Int) = 0 := by omega
        simp only [hg1, hg2, k1, k6, k7, k8, k4, List.getElem?_map, hk, Option.map_some, byteD, T3, T5, T23, T84, EL, e_finWf, e_finWt, e_finMN, e_finMX, retM, meltV, tupV, D.asBox, D.row1, D.freeR, D.freeO, List.replicate_succ, stepD, accs, accP, accW, simpleOp, isAl, isExt, flipD, D.fresh1, D.row, D.plain, D.plain.plainL, St.close, St.close1, St.borrow, retV, resV, resL, outCL, outC, outL, outD, wantedV, opV, An.mid, thawV, St.settle, D.plainU, prune, envOf, get, put, eval, evalT, nz, argsV, capsV, ofV, binV, binV.aggV, unV, intV, eqOp, isConst, natV, optV, loadV, loadC, storeV, setC, St.at_, partV, partTy, indexAddrV, fieldAddrV, sliceV, sliceV.rowSl, sliceV.strSl, bounds, cutP, builtinV, lenV, maxL, maxV, appendV, St.elems, roomy, rowOf, rowS, isStr, esz, tdOf, convV, buildV, fillV, partsV, okParts, fillL, D.whole, D.demoteC, D.demote, demoteL, D.global, D.flat, D.leaf, D.cells, TI.agg, TD.rowish, callOpV, moveL, CC, keepB, St.borrowL, St.borrow, D.isLsl, adoptR, adoptC, adoptCL, adoptL, adopt, List.toArray, Array.toList, Nat.reduceEqDiff, Nat.reduceAdd, Nat.reduceSub, Nat.reduceMul, Nat.reduceLeDiff, Nat.reduceLT, reduceIte, reduceCtorEq, forall_const, imp_self, Int.reduceNeg, Int.reduceLT, Int.reduceLE, Int.reduceGT, Int.reduceGE, Int.reduceAdd, Int.reduceSub, Int.reduceMul, Int.reduceToNat, Int.reduceEq, ne_eq, eq_self]
        refine' in_loop (c' := lp73_1) (fin T _ _ _) ?h3 rfl ?q3
        case h3 => exact tl _ (by simp only [an73, ren_map, toks_map, boxes_map, stB73, hg1, hg2, An.at_, tidyV, tidyW, tidyB, tidyT, sift, envBoxes, envToks, conToks, D.toks, D.tok1, toksL, D.boxes, D.box1, boxesL, memN, posN, renE, D.ren, D.ren1, renL, renB, St.content, St.boxOk, St.tokOk, trues, T3, T5, T23, T84, EL, e_finWf, e_finWt, e_finMN, e_finMX, retM, meltV, tupV, D.asBox, D.row1, D.freeR, D.freeO, List.replicate_succ, stepD, accs, accP, accW, simpleOp, isAl, isExt, flipD, D.fresh1, D.row, D.plain, D.plain.plainL, St.close, St.close1, St.borrow, retV, resV, resL, outCL, outC, outL, outD, wantedV, opV, An.mid, thawV, St.settle, D.plainU, prune, envOf, get, put, eval, evalT, nz, argsV, capsV, ofV, binV, binV.aggV, unV, intV, eqOp, isConst, natV, optV, loadV, loadC, storeV, setC, St.at_, partV, partTy, indexAddrV, fieldAddrV, sliceV, sliceV.rowSl, sliceV.strSl, bounds, cutP, builtinV, lenV, maxL, maxV, appendV, St.elems, roomy, rowOf, rowS, isStr, esz, tdOf, convV, buildV, fillV, partsV, okParts, fillL, D.whole, D.demoteC, D.demote, demoteL, D.global, D.flat, D.leaf, D.cells, TI.agg, TD.rowish, callOpV, moveL, CC, keepB, St.borrowL, St.borrow, D.isLsl, adoptR, adoptC, adoptCL, adoptL, adopt, List.toArray, Array.toList, Nat.reduceEqDiff, Nat.reduceAdd, Nat.reduceSub, Nat.reduceMul, Nat.reduceLeDiff, Nat.reduceLT, reduceIte, reduceCtorEq, forall_const, imp_self, Int.reduceNeg, Int.reduceLT, Int.reduceLE, Int.reduceGT, Int.reduceGE, Int.reduceAdd, Int.reduceSub, Int.reduceMul, Int.reduceToNat, Int.reduceEq, ne_eq, eq_self]; all_goals rfl)
        rintro x st' ⟨ρ2, rfl, rfl, hg3, hg4⟩
        simp only [hg3, hg4, show IntKind.i64.wrap (((9 : Nat) : Int) + 1) = 10 from rfl, T3, T5, T23, T84, EL, e_finWf, e_finWt, e_finMN, e_finMX, retM, meltV, tupV, D.asBox, D.row1, D.freeR, D.freeO, List.replicate_succ, stepD, accs, accP, accW, simpleOp, isAl, isExt, flipD, D.fresh1, D.row, D.plain, D.plain.plainL, St.close, St.close1, St.borrow, retV, resV, resL, outCL, outC, outL, outD, wantedV, opV, An.mid, thawV, St.settle, D.plainU, prune, envOf, get, put, eval, evalT, nz, argsV, capsV, ofV, binV, binV.aggV, unV, intV, eqOp, isConst, natV, optV, loadV, loadC, storeV, setC, St.at_, partV, partTy, indexAddrV, fieldAddrV, sliceV, sliceV.rowSl, sliceV.strSl, bounds, cutP, builtinV, lenV, maxL, maxV, appendV, St.elems, roomy, rowOf, rowS, isStr, esz, tdOf, convV, buildV, fillV, partsV, okParts, fillL, D.whole, D.demoteC, D.demote, demoteL, D.global, D.flat, D.leaf, D.cells, TI.agg, TD.rowish, callOpV, moveL, CC, keepB, St.borrowL, St.borrow, D.isLsl, adoptR, adoptC, adoptCL, adoptL, adopt, List.toArray, Array.toList, Nat.reduceEqDiff, Nat.reduceAdd, Nat.reduceSub, Nat.reduceMul, Nat.reduceLeDiff, Nat.reduceLT, reduceIte, reduceCtorEq, forall_const, imp_self, Int.reduceNeg, Int.reduceLT, Int.reduceLE, Int.reduceGT, Int.reduceGE, Int.reduceAdd, Int.reduceSub, Int.reduceMul, Int.reduceToNat, Int.reduceEq, ne_eq, eq_self]
        try rfl
      · have k1 : ¬ (e : Int) = 9 := by omega
        by_cases e0 : e = 0
        · subst e0
          have k11 : ((0 : Nat) : Int) = 0 := rfl
          have k12 : ¬ ((0 : Int) ≥ l.length) := by omega
          have k13 : ¬ (0 : Int) > 0 := by decide
          simp only [hg1, hg2, k11, k12, k13, List.getElem?_map, hk, Option.map_some, byteD, T3, T5, T23, T84, EL, e_finWf, e_finWt, e_finMN, e_finMX, retM, meltV, tupV, D.asBox, D.row1, D.freeR, D.freeO, List.replicate_succ, stepD, accs, accP, accW, simpleOp, isAl, isExt, flipD, D.fresh1, D.row, D.plain, D.plain.plainL, St.close, St.close1, St.borrow, retV, resV, resL, outCL, outC, outL, outD, wantedV, opV, An.mid, thawV, St.settle, D.plainU, prune, envOf, get, put, eval, evalT, nz, argsV, capsV, ofV, binV, binV.aggV, unV, intV, eqOp, isConst, natV, optV, loadV, loadC, storeV, setC, St.at_, partV, partTy, indexAddrV, fieldAddrV, sliceV, sliceV.rowSl, sliceV.strSl, bounds, cutP, builtinV, lenV, maxL, maxV, appendV, St.elems, roomy, rowOf, rowS, isStr, esz, tdOf, convV, buildV, fillV, partsV, okParts, fillL, D.whole, D.demoteC, D.demote, demoteL, D.global, D.flat, D.leaf, D.cells, TI.agg, TD.rowish, callOpV, moveL, CC, keepB, St.borrowL, St.borrow, D.isLsl, adoptR, adoptC, adoptCL, adoptL, adopt, List.toArray, Array.toList, Nat.reduceEqDiff, Nat.reduceAdd, Nat.reduceSub, Nat.reduceMul, Nat.reduceLeDiff, Nat.reduceLT, reduceIte, reduceCtorEq, forall_const, imp_self, Int.reduceNeg, Int.reduceLT, Int.reduceLE, Int.reduceGT, Int.reduceGE, Int.reduceAdd, Int.reduceSub, Int.reduceMul, Int.reduceToNat, Int.reduceEq, ne_eq, eq_self]
          refine' in_loop (c' := lp73_1) (fin T _ _ _) ?h4 rfl ?q4
          case h4 => exact tl _ (by simp only [an73, ren_map, toks_map, boxes_map, stB73, hg1, hg2, An.at_, tidyV, tidyW, tidyB, tidyT, sift, envBoxes, envToks, conToks, D.toks, D.tok1, toksL, D.boxes, D.box1, boxesL, memN, posN, renE, D.ren, D.ren1, renL, renB, St.content, St.boxOk, St.tokOk, trues, T3, T5, T23, T84, EL, e_finWf, e_finWt, e_finMN, e_finMX, retM, meltV, tupV, D.asBox, D.row1, D.freeR, D.freeO, List.replicate_succ, stepD, accs, accP, accW, simpleOp, isAl, isExt, flipD, D.fresh1, D.row, D.plain, D.plain.plainL, St.close, St.close1, St.borrow, retV, resV, resL, outCL, outC, outL, outD, wantedV, opV, An.mid, thawV, St.settle, D.plainU, prune, envOf, get, put, eval, evalT, nz, argsV, capsV, ofV, binV, binV.aggV, unV, intV, eqOp, isConst, natV, optV, loadV, loadC, storeV, setC, St.at_, partV, partTy, indexAddrV, fieldAddrV, sliceV, sliceV.rowSl, sliceV.strSl, bounds, cutP, builtinV, lenV, maxL, maxV, appendV, St.elems, roomy, rowOf, rowS, isStr, esz, tdOf, convV, buildV, fillV, partsV, okParts, fillL, D.whole, D.demoteC, D.demote, demoteL, D.global, D.flat, D.leaf, D.cells, TI.agg, TD.rowish, callOpV, moveL, CC, keepB, St.borrowL, St.borrow, D.isLsl, adoptR, adoptC, adoptCL, adoptL, adopt, List.toArray, Array.toList, Nat.reduceEqDiff, Nat.reduceAdd, Nat.reduceSub, Nat.reduceMul, Nat.reduceLeDiff, Nat.reduceLT, reduceIte, reduceCtorEq, forall_const, imp_self, Int.reduceNeg, Int.reduceLT, Int.reduceLE, Int.reduceGT, Int.reduceGE, Int.reduceAdd, Int.reduceSub, Int.reduceMul, Int.reduceToNat, Int.reduceEq, ne_eq, eq_self]; all_goals rfl)
          rintro x st' ⟨ρ2, rfl, rfl, hg3, hg4⟩
          simp only [hg3, hg4, show IntKind.i64.wrap (((0 : Nat) : Int) + 1) = 1 from rfl, T3, T5, T23, T84, EL, e_finWf, e_finWt, e_finMN, e_finMX, retM, meltV, tupV, D.asBox, D.row1, D.freeR, D.freeO, List.replicate_succ, stepD, accs, accP, accW, simpleOp, isAl, isExt, flipD, D.fresh1, D.row, D.plain, D.plain.plainL, St.close, St.close1, St.borrow, retV, resV, resL, outCL, outC, outL, outD, wantedV, opV, An.mid, thawV, St.settle, D.plainU, prune, envOf, get, put, eval, evalT, nz, argsV, capsV, ofV, binV, binV.aggV, unV, intV, eqOp, isConst, natV, optV, loadV, loadC, storeV, setC, St.at_, partV, partTy, indexAddrV, fieldAddrV, sliceV, sliceV.rowSl, sliceV.strSl, bounds, cutP, builtinV, lenV, maxL, maxV, appendV, St.elems, roomy, rowOf, rowS, isStr, esz, tdOf, convV, buildV, fillV, partsV, okParts, fillL, D.whole, D.demoteC, D.demote, demoteL, D.global, D.flat, D.leaf, D.cells, TI.agg, TD.rowish, callOpV, moveL, CC, keepB, St.borrowL, St.borrow, D.isLsl, adoptR, adoptC, adoptCL, adoptL, adopt, List.toArray, Array.toList, Nat.reduceEqDiff, Nat.reduceAdd, Nat.reduceSub, Nat.reduceMul, Nat.reduceLeDiff, Nat.reduceLT, reduceIte, reduceCtorEq, forall_const, imp_self, Int.reduceNeg, Int.reduceLT, Int.reduceLE, Int.reduceGT, Int.reduceGE, Int.reduceAdd, Int.reduceSub, Int.reduceMul, Int.reduceToNat, Int.reduceEq, ne_eq, eq_self]
          try rfl
        · have k3 : (e : Int) > 0 := by omega
          have k4 : ¬ (c.toNat : Int) = 0 := by omega
          simp only [hg1, hg2, k10, k1, k2, k3, k4, z0, List.getElem?_map, Int.toNat_natCast, hk, Option.map_some, byteD, T3, T5, T23, T84, EL, e_finWf, e_finWt, e_finMN, e_finMX, retM, meltV, tupV, D.asBox, D.row1, D.freeR, D.freeO, List.replicate_succ, stepD, accs, accP, accW, simpleOp, isAl, isExt, flipD, D.fresh1, D.row, D.plain, D.plain.plainL, St.close, St.close1, St.borrow, retV, resV, resL, outCL, outC, outL, outD, wantedV, opV, An.mid, thawV, St.settle, D.plainU, prune, envOf, get, put, eval, evalT, nz, argsV, capsV, ofV, binV, binV.aggV, unV, intV, eqOp, isConst, natV, optV, loadV, loadC, storeV, setC, St.at_, partV, partTy, indexAddrV, fieldAddrV, sliceV, sliceV.rowSl, sliceV.strSl, bounds, cutP, builtinV, lenV, maxL, maxV, appendV, St.elems, roomy, rowOf, rowS, isStr, esz, tdOf, convV, buildV, fillV, partsV, okParts, fillL, D.whole, D.demoteC, D.demote, demoteL, D.global, D.flat, D.leaf, D.cells, TI.agg, TD.rowish, callOpV, moveL, CC, keepB, St.borrowL, St.borrow, D.isLsl, adoptR, adoptC, adoptCL, adoptL, adopt, List.toArray, Array.toList, Nat.reduceEqDiff, Nat.reduceAdd, Nat.reduceSub, Nat.reduceMul, Nat.reduceLeDiff, Nat.reduceLT, reduceIte, reduceCtorEq, forall_const, imp_self, Int.reduceNeg, Int.reduceLT, Int.reduceLE, Int.reduceGT, Int.reduceGE, Int.reduceAdd, Int.reduceSub, Int.reduceMul, Int.reduceToNat, Int.reduceEq, ne_eq, eq_self]
          refine' in_loop (c' := lp73_1) (fin T _ _ _) ?h5 rfl ?q5
          case h5 => exact tl _ (by simp only [an73, ren_map, toks_map, boxes_map, stB73, hg1, hg2, An.at_, tidyV, tidyW, tidyB, tidyT, sift, envBoxes, envToks, conToks, D.toks, D.tok1, toksL, D.boxes, D.box1, boxesL, memN, posN, renE, D.ren, D.ren1, renL, renB, St.content, St.boxOk, St.tokOk, trues, T3, T5, T23, T84, EL, e_finWf, e_finWt, e_finMN, e_finMX, retM, meltV, tupV, D.asBox, D.row1, D.freeR, D.freeO, List.replicate_succ, stepD, accs, accP, accW, simpleOp, isAl, isExt, flipD, D.fresh1, D.row, D.plain, D.plain.plainL, St.close, St.close1, St.borrow, retV, resV, resL, outCL, outC, outL, outD, wantedV, opV, An.mid, thawV, St.settle, D.plainU, prune, envOf, get, put, eval, evalT, nz, argsV, capsV, ofV, binV, binV.aggV, unV, intV, eqOp, isConst, natV, optV, loadV, loadC, storeV, setC, St.at_, partV, partTy, indexAddrV, fieldAddrV, sliceV, sliceV.rowSl, sliceV.strSl, bounds, cutP, builtinV, lenV, maxL, maxV, appendV, St.elems, roomy, rowOf, rowS, isStr, esz, tdOf, convV, buildV, fillV, partsV, okParts, fillL, D.whole, D.demoteC, D.demote, demoteL, D.global, D.flat, D.leaf, D.cells, TI.agg, TD.rowish, callOpV, moveL, CC, keepB, St.borrowL, St.borrow, D.isLsl, adoptR, adoptC, adoptCL, adoptL, adopt, List.toArray, Array.toList, Nat.reduceEqDiff, Nat.reduceAdd, Nat.reduceSub, Nat.reduceMul, Nat.reduceLeDiff, Nat.reduceLT, reduceIte, reduceCtorEq, forall_const, imp_self, Int.reduceNeg, Int.reduceLT, Int.reduceLE, Int.reduceGT, Int.reduceGE, Int.reduceAdd, Int.reduceSub, Int.reduceMul, Int.reduceToNat, Int.reduceEq, ne_eq, eq_self]; all_goals rfl)
          rintro x st' ⟨ρ2, rfl, rfl, hg3, hg4⟩
          simp only [hg3, hg4, k5, T3, T5, T23, T84, EL, e_finWf, e_finWt, e_finMN, e_finMX, retM, meltV, tupV, D.asBox, D.row1, D.freeR, D.freeO, List.replicate_succ, stepD, accs, accP, accW, simpleOp, isAl, isExt, flipD, D.fresh1, D.row, D.plain, D.plain.plainL, St.close, St.close1, St.borrow, retV, resV, resL, outCL, outC, outL, outD, wantedV, opV, An.mid, thawV, St.settle, D.plainU, prune, envOf, get, put, eval, evalT, nz, argsV, capsV, ofV, binV, binV.aggV, unV, intV, eqOp, isConst, natV, optV, loadV, loadC, storeV, setC, St.at_, partV, partTy, indexAddrV, fieldAddrV, sliceV, sliceV.rowSl, sliceV.strSl, bounds, cutP, builtinV, lenV, maxL, maxV, appendV, St.elems, roomy, rowOf, rowS, isStr, esz, tdOf, convV, buildV, fillV, partsV, okParts, fillL, D.whole, D.demoteC, D.demote, demoteL, D.global, D.flat, D.leaf, D.cells, TI.agg, TD.rowish, callOpV, moveL, CC, keepB, St.borrowL, St.borrow, D.isLsl, adoptR, adoptC, adoptCL, adoptL, adopt, List.toArray, Array.toList, Nat.reduceEqDiff, Nat.reduceAdd, Nat.reduceSub, Nat.reduceMul, Nat.reduceLeDiff, Nat.reduceLT, reduceIte, reduceCtorEq, forall_const, imp_self, Int.reduceNeg, Int.reduceLT, Int.reduceLE, Int.reduceGT, Int.reduceGE, Int.reduceAdd, Int.reduceSub, Int.reduceMul, Int.reduceToNat, Int.reduceEq, ne_eq, eq_self]
          try rfl

theorem c73 (hC : LibVar C) (l : List UInt8) (B : Hp) (hl : l.length ≤ 1000000) : C 73 [.vec 1 (l.map byteD) .none] B = some (refD l, B) := hC.f73 _ _ _ (run73 C l B hl)

end Go.Proofs.YtfkhijjabkhmmaaDoor.V
