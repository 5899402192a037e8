/-
Keys and spans: what the program's and the document's functions compute.
-/
import Derived.Test.YtnhelkclkdfndaaDoorXL
import Derived.Test.YtnhelkclkdfndaaDoorSA
namespace Go.Proofs.YtnhelkclkdfndaaDoor.V
open Go Go.RowKit
set_option linter.unusedSimpArgs false
set_option linter.unusedVariables false

/-! warren/warrenref07.Begins -/
def an145 : An := ⟨fun _ => .none, fun _ => 0, fun _ => false, fun _ => .none⟩
noncomputable def fi145 : FI := ⟨2, 18, Tryd.f145.body.getD .skip, Tryd.f145.results.toList, an145, false, false, false⟩
theorem ok145 : FnOk Tryd.prog 145 fi145 := ⟨⟨Tryd.f145, Tryd.func145, by kernel_rfl, rfl, rfl, rfl⟩, by decide, by kernel_rfl, fun h => by cases h⟩
/-! warren/warrenref07.Less -/
def an124 : An := ⟨fun | 2 => some [0, 1, 5] | _ => .none, fun _ => 0, fun _ => false, fun _ => .none⟩
noncomputable def fi124 : FI := ⟨2, 37, Tryd.f124.body.getD .skip, Tryd.f124.results.toList, an124, false, false, false⟩
theorem ok124 : FnOk Tryd.prog 124 fi124 := ⟨⟨Tryd.f124, Tryd.func124, by kernel_rfl, rfl, rfl, rfl⟩, by decide, by kernel_rfl, fun h => by cases h⟩
noncomputable def lp124_0 : Code := subC [1, 0, 1, 0, 0] (Tryd.f124.body.getD .skip)   -- head 2 keep [0, 1, 5]

abbrev lt (a b : List UInt8) : Bool := Op.bytesLess a b
/-- A span. -/
abbrev spD (lo hi : List UInt8) (op : Bool) : D := .agg [.str lo, .str hi, .bool op]

/-! ### The order -/
theorem lt_irrefl : ∀ a : List UInt8, lt a a = false
  | [] => rfl
  | x :: a => by simp [lt, Op.bytesLess]; exact lt_irrefl a

theorem lt_cons (x y : UInt8) (a b : List UInt8) : lt (x :: a) (y :: b) = true ↔ x < y ∨ (x = y ∧ lt a b = true) := by simp [lt, Op.bytesLess]

theorem lt_trans : ∀ {a b c : List UInt8}, lt a b = true → lt b c = true → lt a c = true
  | _, _, [], _, h => by simp [lt, Op.bytesLess] at h
  | _, [], _ :: _, h, _ => by simp [lt, Op.bytesLess] at h
  | [], _ :: _, _ :: _, _, _ => by simp [lt, Op.bytesLess]
  | x :: a, y :: b, z :: c, h1, h2 => by
    rw [lt_cons] at h1 h2 ⊢
    rcases h1 with h1 | ⟨rfl, h1⟩ <;> rcases h2 with h2 | ⟨rfl, h2⟩
    · exact .inl (UInt8.lt_trans h1 h2)
    · exact .inl h1
    · exact .inl h2
    · exact .inr ⟨rfl, lt_trans h1 h2⟩

theorem lt_total : ∀ {a b : List UInt8}, lt a b = false → lt b a = false → a = b
  | [], [], _, _ => rfl
  | [], _ :: _, h, _ => by simp [lt, Op.bytesLess] at h
  | _ :: _, [], _, h => by simp [lt, Op.bytesLess] at h
  | x :: a, y :: b, h1, h2 => by
    have g1 : ¬ (x < y ∨ (x = y ∧ lt a b = true)) := fun h => by rw [← lt_cons] at h; rw [h] at h1; cases h1
    have g2 : ¬ (y < x ∨ (y = x ∧ lt b a = true)) := fun h => by rw [← lt_cons] at h; rw [h] at h2; cases h2
    have hxy : x = y := by
      rcases UInt8.lt_or_le x y with h | h
      · exact absurd (.inl h) g1
      · rcases UInt8.lt_or_eq_of_le h with h | h
        · exact absurd (.inl h) g2
        · exact h.symm
    subst hxy
    have e1 : lt a b = false := by cases h : lt a b; rfl; exact absurd (.inr ⟨rfl, h⟩) g1
    have e2 : lt b a = false := by cases h : lt b a; rfl; exact absurd (.inr ⟨rfl, h⟩) g2
    rw [lt_total e1 e2]

theorem lt_asymm {a b : List UInt8} (h : lt a b = true) : lt b a = false := by
  cases hb : lt b a with
  | false => rfl
  | true => have := lt_trans h hb; rw [lt_irrefl] at this; cases this

/-! ### Less -/
def st124 (a b : List UInt8) (B : Hp) (k : Nat) : St := ⟨[(0, .str a), (1, .str b), (5, .int .i64 k)], [], [], B⟩

set_option maxRecDepth 10000 in
theorem body124_end (C : Callees) (a b : List UInt8) (B : Hp) (k : Nat) (hk : a.length ≤ k ∨ b.length ≤ k) :
    ∃ ρ, go T an124 C lp124_0 .top (st124 a b B k) = some (.exit 0, ⟨ρ, [], [], B⟩) ∧ get ρ 0 = .str a ∧ get ρ 1 = .str b := by
  simp only [st124, lp124_0, subC, atC, Tryd.f124, an124, T3, T5, T9, EL, e_finWf, e_finWt, e_finMN, e_finMX, retM, meltV, tupV, D.asBox, D.row1, D.freeR, D.freeO, List.replicate_succ, stepD, accs, accP, accW, simpleOp, isAl, isExt, flipD, D.fresh1, D.row, D.plain, D.plain.plainL, St.close, St.close1, St.borrow, retV, resV, resL, outCL, outC, outL, outD, wantedV, opV, An.mid, thawV, St.settle, D.plainU, prune, envOf, get, put, eval, evalT, nz, argsV, capsV, ofV, binV, binV.aggV, unV, intV, eqOp, isConst, natV, optV, loadV, loadC, storeV, setC, St.at_, partV, partTy, indexAddrV, fieldAddrV, sliceV, sliceV.rowSl, sliceV.strSl, bounds, cutP, builtinV, lenV, maxL, maxV, appendV, St.elems, roomy, rowOf, rowS, isStr, esz, tdOf, convV, buildV, fillV, partsV, okParts, fillL, D.whole, D.demoteC, D.demote, demoteL, D.global, D.flat, D.leaf, D.cells, TI.agg, TD.rowish, callOpV, moveL, CC, keepB, St.borrowL, St.borrow, D.isLsl, adoptR, adoptC, adoptCL, adoptL, adopt, List.toArray, Array.toList, Nat.reduceEqDiff, Nat.reduceAdd, Nat.reduceSub, Nat.reduceMul, Nat.reduceLeDiff, Nat.reduceLT, reduceIte, reduceCtorEq, forall_const, imp_self, Int.reduceNeg, Int.reduceLT, Int.reduceLE, Int.reduceGT, Int.reduceGE, Int.reduceAdd, Int.reduceSub, Int.reduceMul, Int.reduceToNat, Int.reduceEq, ne_eq, eq_self]
  repeat' ((first | rw [e_if] | rw [e_bool]); split <;> rename_i hc <;> (try simp only [bT, bF, Bool.not_eq_true', decide_eq_true_eq, decide_eq_false_iff_not, Bool.not_eq_true, Bool.not_eq_false, Decidable.not_not] at hc) <;> simp only [hc, T3, T5, T9, EL, e_finWf, e_finWt, e_finMN, e_finMX, retM, meltV, tupV, D.asBox, D.row1, D.freeR, D.freeO, List.replicate_succ, stepD, accs, accP, accW, simpleOp, isAl, isExt, flipD, D.fresh1, D.row, D.plain, D.plain.plainL, St.close, St.close1, St.borrow, retV, resV, resL, outCL, outC, outL, outD, wantedV, opV, An.mid, thawV, St.settle, D.plainU, prune, envOf, get, put, eval, evalT, nz, argsV, capsV, ofV, binV, binV.aggV, unV, intV, eqOp, isConst, natV, optV, loadV, loadC, storeV, setC, St.at_, partV, partTy, indexAddrV, fieldAddrV, sliceV, sliceV.rowSl, sliceV.strSl, bounds, cutP, builtinV, lenV, maxL, maxV, appendV, St.elems, roomy, rowOf, rowS, isStr, esz, tdOf, convV, buildV, fillV, partsV, okParts, fillL, D.whole, D.demoteC, D.demote, demoteL, D.global, D.flat, D.leaf, D.cells, TI.agg, TD.rowish, callOpV, moveL, CC, keepB, St.borrowL, St.borrow, D.isLsl, adoptR, adoptC, adoptCL, adoptL, adopt, List.toArray, Array.toList, Nat.reduceEqDiff, Nat.reduceAdd, Nat.reduceSub, Nat.reduceMul, Nat.reduceLeDiff, Nat.reduceLT, reduceIte, reduceCtorEq, forall_const, imp_self, Int.reduceNeg, Int.reduceLT, Int.reduceLE, Int.reduceGT, Int.reduceGE, Int.reduceAdd, Int.reduceSub, Int.reduceMul, Int.reduceToNat, Int.reduceEq, ne_eq, eq_self])
  all_goals first | exact ⟨_, rfl, rfl, rfl⟩ | (exfalso; omega)

theorem u8_ne {x y : UInt8} : ((x.toNat : Int) = y.toNat) ↔ x = y := by
  constructor
  · intro h; exact UInt8.toNat_inj.1 (by omega)
  · intro h; rw [h]

set_option maxRecDepth 10000 in
theorem body124_bad (C : Callees) (a b : List UInt8) (B : Hp) (k : Nat) (x y : UInt8) (ha : a[k]? = some x) (hb : b[k]? = some y) (hxy : x ≠ y) :
    ∃ ρ, go T an124 C lp124_0 .top (st124 a b B k) = some (.ret, ⟨ρ, [], [], B⟩) ∧ get ρ 4 = .bool (decide (x < y)) := by
  have h1 : (k : Int) < a.length := by have := (List.getElem?_eq_some_iff.1 ha).1; omega
  have h2 : (k : Int) < b.length := by have := (List.getElem?_eq_some_iff.1 hb).1; omega
  have h0 : (0 : Int) ≤ k := by omega
  have h3 : decide ((x.toNat : Int) < y.toNat) = decide (x < y) := by rw [decide_eq_decide, UInt8.lt_iff_toNat_lt]; omega
  simp only [st124, lp124_0, subC, atC, Tryd.f124, an124, h0, h1, h2, ha, hb, byteD, u8_ne, hxy, h3, Int.toNat_natCast, T3, T5, T9, EL, e_finWf, e_finWt, e_finMN, e_finMX, retM, meltV, tupV, D.asBox, D.row1, D.freeR, D.freeO, List.replicate_succ, stepD, accs, accP, accW, simpleOp, isAl, isExt, flipD, D.fresh1, D.row, D.plain, D.plain.plainL, St.close, St.close1, St.borrow, retV, resV, resL, outCL, outC, outL, outD, wantedV, opV, An.mid, thawV, St.settle, D.plainU, prune, envOf, get, put, eval, evalT, nz, argsV, capsV, ofV, binV, binV.aggV, unV, intV, eqOp, isConst, natV, optV, loadV, loadC, storeV, setC, St.at_, partV, partTy, indexAddrV, fieldAddrV, sliceV, sliceV.rowSl, sliceV.strSl, bounds, cutP, builtinV, lenV, maxL, maxV, appendV, St.elems, roomy, rowOf, rowS, isStr, esz, tdOf, convV, buildV, fillV, partsV, okParts, fillL, D.whole, D.demoteC, D.demote, demoteL, D.global, D.flat, D.leaf, D.cells, TI.agg, TD.rowish, callOpV, moveL, CC, keepB, St.borrowL, St.borrow, D.isLsl, adoptR, adoptC, adoptCL, adoptL, adopt, List.toArray, Array.toList, Nat.reduceEqDiff, Nat.reduceAdd, Nat.reduceSub, Nat.reduceMul, Nat.reduceLeDiff, Nat.reduceLT, reduceIte, reduceCtorEq, forall_const, imp_self, Int.reduceNeg, Int.reduceLT, Int.reduceLE, Int.reduceGT, Int.reduceGE, Int.reduceAdd, Int.reduceSub, Int.reduceMul, Int.reduceToNat, Int.reduceEq, ne_eq, eq_self]
  exact ⟨_, rfl, rfl⟩

set_option maxRecDepth 10000 in
theorem body124_ok (C : Callees) (a b : List UInt8) (B : Hp) (k : Nat) (x : UInt8) (ha : a[k]? = some x) (hb : b[k]? = some x) (hl : a.length ≤ 1000000) :
    ∃ ρ, go T an124 C lp124_0 .top (st124 a b B k) = some (.norm, ⟨ρ, [], [], B⟩) ∧ an124.at_ (some 2) ⟨ρ, [], [], B⟩ = st124 a b B (k + 1) := by
  have hla := (List.getElem?_eq_some_iff.1 ha).1
  have h1 : (k : Int) < a.length := by omega
  have h2 : (k : Int) < b.length := by have := (List.getElem?_eq_some_iff.1 hb).1; omega
  have h0 : (0 : Int) ≤ k := by omega
  have h3 := wrapI (x := (k : Int) + 1) (by omega) (by omega)
  simp only [st124, lp124_0, subC, atC, Tryd.f124, an124, h0, h1, h2, h3, ha, hb, byteD, Int.toNat_natCast, T3, T5, T9, EL, e_finWf, e_finWt, e_finMN, e_finMX, retM, meltV, tupV, D.asBox, D.row1, D.freeR, D.freeO, List.replicate_succ, stepD, accs, accP, accW, simpleOp, isAl, isExt, flipD, D.fresh1, D.row, D.plain, D.plain.plainL, St.close, St.close1, St.borrow, retV, resV, resL, outCL, outC, outL, outD, wantedV, opV, An.mid, thawV, St.settle, D.plainU, prune, envOf, get, put, eval, evalT, nz, argsV, capsV, ofV, binV, binV.aggV, unV, intV, eqOp, isConst, natV, optV, loadV, loadC, storeV, setC, St.at_, partV, partTy, indexAddrV, fieldAddrV, sliceV, sliceV.rowSl, sliceV.strSl, bounds, cutP, builtinV, lenV, maxL, maxV, appendV, St.elems, roomy, rowOf, rowS, isStr, esz, tdOf, convV, buildV, fillV, partsV, okParts, fillL, D.whole, D.demoteC, D.demote, demoteL, D.global, D.flat, D.leaf, D.cells, TI.agg, TD.rowish, callOpV, moveL, CC, keepB, St.borrowL, St.borrow, D.isLsl, adoptR, adoptC, adoptCL, adoptL, adopt, List.toArray, Array.toList, Nat.reduceEqDiff, Nat.reduceAdd, Nat.reduceSub, Nat.reduceMul, Nat.reduceLeDiff, Nat.reduceLT, reduceIte, reduceCtorEq, forall_const, imp_self, Int.reduceNeg, Int.reduceLT, Int.reduceLE, Int.reduceGT, Int.reduceGE, Int.reduceAdd, Int.reduceSub, Int.reduceMul, Int.reduceToNat, Int.reduceEq, ne_eq, eq_self]
  exact ⟨_, rfl, rfl⟩

theorem loop124 (C : Callees) (a b : List UInt8) (B : Hp) (hl : a.length ≤ 1000000) : ∀ (m k : Nat) (st : St), a.length - k = m → k ≤ a.length →
    an124.at_ (some 2) st = st124 a b B k →
    ∃ x st', loopC T an124 C lp124_0 st = some (x, st') ∧ ∃ ρ, st' = ⟨ρ, [], [], B⟩ ∧
      ((x = .ret ∧ get ρ 4 = .bool (lt (a.drop k) (b.drop k))) ∨ (x = .exit 0 ∧ get ρ 0 = .str a ∧ get ρ 1 = .str b ∧ decide ((a.length : Int) < b.length) = lt (a.drop k) (b.drop k))) := by
  intro m
  induction m with
  | zero =>
    intro k st hm hka hst
    obtain rfl : k = a.length := by omega
    obtain ⟨ρ, h, hg1, hg2⟩ := body124_end C a b B a.length (.inl (by omega))
    refine ⟨_, _, loopC_done (by rw [show firstOf lp124_0 = some 2 from rfl, hst]; exact h) (by simp), ρ, rfl, .inr ⟨rfl, hg1, hg2, ?_⟩⟩
    rw [List.drop_length]
    cases hd : b.drop a.length with
    | nil =>
      have := List.drop_eq_nil_iff.1 hd
      simp [lt, Op.bytesLess]; omega
    | cons y r =>
      have : ¬ b.length ≤ a.length := fun h => by rw [List.drop_eq_nil_of_le h] at hd; cases hd
      simp [lt, Op.bytesLess]; omega
  | succ m ih =>
    intro k st hm hka' hst
    have hka : k < a.length := by omega
    by_cases hkb : b.length ≤ k
    · obtain ⟨ρ, h, hg1, hg2⟩ := body124_end C a b B k (.inr hkb)
      refine ⟨_, _, loopC_done (by rw [show firstOf lp124_0 = some 2 from rfl, hst]; exact h) (by simp), ρ, rfl, .inr ⟨rfl, hg1, hg2, ?_⟩⟩
      rw [List.drop_eq_nil_of_le hkb, List.drop_eq_getElem_cons hka]
      simp [lt, Op.bytesLess]; omega
    · have ha := List.getElem?_eq_getElem hka
      have hb := List.getElem?_eq_getElem (l := b) (i := k) (by omega)
      rw [List.drop_eq_getElem_cons hka, List.drop_eq_getElem_cons (l := b) (i := k) (by omega)]
      generalize a[k] = x at ha ⊢
      generalize b[k] = y at hb ⊢
      by_cases hxy : x = y
      · subst hxy
        obtain ⟨ρ, h, hg⟩ := body124_ok C a b B k x ha hb hl
        obtain ⟨z, st', h4, ρ', h5, h6⟩ := ih (k + 1) ⟨ρ, [], [], B⟩ (by omega) (by omega) hg
        refine ⟨z, st', loopC_next (by rw [show firstOf lp124_0 = some 2 from rfl, hst]; exact h) h4, ρ', h5, ?_⟩
        simpa [lt, Op.bytesLess] using h6
      · obtain ⟨ρ, h, hg⟩ := body124_bad C a b B k x y ha hb hxy
        refine ⟨_, _, loopC_done (by rw [show firstOf lp124_0 = some 2 from rfl, hst]; exact h) (by simp), ρ, rfl, .inl ⟨rfl, ?_⟩⟩
        rw [hg]
        simp [lt, Op.bytesLess, hxy]

set_option maxRecDepth 10000 in
theorem run124 (C : Callees) (a b : List UInt8) (B : Hp) (hl : a.length ≤ 1000000) : runV T C fi124 [.str a, .str b] B = some (.bool (lt a b), B) := by
  rw [e_run _ _ _ rfl]
  simp only [fi124, Tryd.f124, an124, T3, T5, T9, EL, e_finWf, e_finWt, e_finMN, e_finMX, retM, meltV, tupV, D.asBox, D.row1, D.freeR, D.freeO, List.replicate_succ, stepD, accs, accP, accW, simpleOp, isAl, isExt, flipD, D.fresh1, D.row, D.plain, D.plain.plainL, St.close, St.close1, St.borrow, retV, resV, resL, outCL, outC, outL, outD, wantedV, opV, An.mid, thawV, St.settle, D.plainU, prune, envOf, get, put, eval, evalT, nz, argsV, capsV, ofV, binV, binV.aggV, unV, intV, eqOp, isConst, natV, optV, loadV, loadC, storeV, setC, St.at_, partV, partTy, indexAddrV, fieldAddrV, sliceV, sliceV.rowSl, sliceV.strSl, bounds, cutP, builtinV, lenV, maxL, maxV, appendV, St.elems, roomy, rowOf, rowS, isStr, esz, tdOf, convV, buildV, fillV, partsV, okParts, fillL, D.whole, D.demoteC, D.demote, demoteL, D.global, D.flat, D.leaf, D.cells, TI.agg, TD.rowish, callOpV, moveL, CC, keepB, St.borrowL, St.borrow, D.isLsl, adoptR, adoptC, adoptCL, adoptL, adopt, List.toArray, Array.toList, Nat.reduceEqDiff, Nat.reduceAdd, Nat.reduceSub, Nat.reduceMul, Nat.reduceLeDiff, Nat.reduceLT, reduceIte, reduceCtorEq, forall_const, imp_self, Int.reduceNeg, Int.reduceLT, Int.reduceLE, Int.reduceGT, Int.reduceGE, Int.reduceAdd, Int.reduceSub, Int.reduceMul, Int.reduceToNat, Int.reduceEq, ne_eq, eq_self]
  refine' in_loop (c' := lp124_0) (fin T _ _ _) ?h rfl ?q
  case h => exact loop124 C a b B hl _ 0 _ rfl (by omega) rfl
  rintro x st' ⟨ρ, rfl, ⟨rfl, hg⟩ | ⟨rfl, hg1, hg2, hg3⟩⟩
  · simp only [hg, List.drop_zero, T3, T5, T9, EL, e_finWf, e_finWt, e_finMN, e_finMX, retM, meltV, tupV, D.asBox, D.row1, D.freeR, D.freeO, List.replicate_succ, stepD, accs, accP, accW, simpleOp, isAl, isExt, flipD, D.fresh1, D.row, D.plain, D.plain.plainL, St.close, St.close1, St.borrow, retV, resV, resL, outCL, outC, outL, outD, wantedV, opV, An.mid, thawV, St.settle, D.plainU, prune, envOf, get, put, eval, evalT, nz, argsV, capsV, ofV, binV, binV.aggV, unV, intV, eqOp, isConst, natV, optV, loadV, loadC, storeV, setC, St.at_, partV, partTy, indexAddrV, fieldAddrV, sliceV, sliceV.rowSl, sliceV.strSl, bounds, cutP, builtinV, lenV, maxL, maxV, appendV, St.elems, roomy, rowOf, rowS, isStr, esz, tdOf, convV, buildV, fillV, partsV, okParts, fillL, D.whole, D.demoteC, D.demote, demoteL, D.global, D.flat, D.leaf, D.cells, TI.agg, TD.rowish, callOpV, moveL, CC, keepB, St.borrowL, St.borrow, D.isLsl, adoptR, adoptC, adoptCL, adoptL, adopt, List.toArray, Array.toList, Nat.reduceEqDiff, Nat.reduceAdd, Nat.reduceSub, Nat.reduceMul, Nat.reduceLeDiff, Nat.reduceLT, reduceIte, reduceCtorEq, forall_const, imp_self, Int.reduceNeg, Int.reduceLT, Int.reduceLE, Int.reduceGT, Int.reduceGE, Int.reduceAdd, Int.reduceSub, Int.reduceMul, Int.reduceToNat, Int.reduceEq, ne_eq, eq_self]
  · simp only [hg1, hg2, hg3, List.drop_zero, T3, T5, T9, EL, e_finWf, e_finWt, e_finMN, e_finMX, retM, meltV, tupV, D.asBox, D.row1, D.freeR, D.freeO, List.replicate_succ, stepD, accs, accP, accW, simpleOp, isAl, isExt, flipD, D.fresh1, D.row, D.plain, D.plain.plainL, St.close, St.close1, St.borrow, retV, resV, resL, outCL, outC, outL, outD, wantedV, opV, An.mid, thawV, St.settle, D.plainU, prune, envOf, get, put, eval, evalT, nz, argsV, capsV, ofV, binV, binV.aggV, unV, intV, eqOp, isConst, natV, optV, loadV, loadC, storeV, setC, St.at_, partV, partTy, indexAddrV, fieldAddrV, sliceV, sliceV.rowSl, sliceV.strSl, bounds, cutP, builtinV, lenV, maxL, maxV, appendV, St.elems, roomy, rowOf, rowS, isStr, esz, tdOf, convV, buildV, fillV, partsV, okParts, fillL, D.whole, D.demoteC, D.demote, demoteL, D.global, D.flat, D.leaf, D.cells, TI.agg, TD.rowish, callOpV, moveL, CC, keepB, St.borrowL, St.borrow, D.isLsl, adoptR, adoptC, adoptCL, adoptL, adopt, List.toArray, Array.toList, Nat.reduceEqDiff, Nat.reduceAdd, Nat.reduceSub, Nat.reduceMul, Nat.reduceLeDiff, Nat.reduceLT, reduceIte, reduceCtorEq, forall_const, imp_self, Int.reduceNeg, Int.reduceLT, Int.reduceLE, Int.reduceGT, Int.reduceGE, Int.reduceAdd, Int.reduceSub, Int.reduceMul, Int.reduceToNat, Int.reduceEq, ne_eq, eq_self]

/-! ### Straight ones -/

/-- What two spans have together. -/
def mLo (a b : List UInt8) : List UInt8 := if lt a b then b else a
def mHi (aop bop : Bool) (a b : List UInt8) : List UInt8 := if aop && bop then [] else if aop then b else if bop then a else if lt b a then b else a

section ref
variable (C : Callees) (hL : ∀ (a b : List UInt8) (B : Hp), a.length ≤ 1000000 → C 124 [.str a, .str b] B = some (.bool (lt a b), B))
include hL



end ref

set_option maxRecDepth 10000 in
theorem run145 (C : Callees) (s p : List UInt8) (B : Hp) : runV T C fi145 [.str s, .str p] B = some (.bool (decide (p.length ≤ s.length) && s.take p.length == p), B) := by
  rw [e_run _ _ _ rfl]
  by_cases h : p.length ≤ s.length
  · have h1 : (s.length : Int) ≥ p.length := by omega
    have h0 : (0 : Int) ≤ p.length := by omega
    simp only [fi145, Tryd.f145, an145, strV, h0, h1, h, Int.toNat_natCast, T3, T9, EL, e_finWf, e_finWt, e_finMN, e_finMX, retM, meltV, tupV, D.asBox, D.row1, D.freeR, D.freeO, List.replicate_succ, stepD, accs, accP, accW, simpleOp, isAl, isExt, flipD, D.fresh1, D.row, D.plain, D.plain.plainL, St.close, St.close1, St.borrow, retV, resV, resL, outCL, outC, outL, outD, wantedV, opV, An.mid, thawV, St.settle, D.plainU, prune, envOf, get, put, eval, evalT, nz, argsV, capsV, ofV, binV, binV.aggV, unV, intV, eqOp, isConst, natV, optV, loadV, loadC, storeV, setC, St.at_, partV, partTy, indexAddrV, fieldAddrV, sliceV, sliceV.rowSl, sliceV.strSl, bounds, cutP, builtinV, lenV, maxL, maxV, appendV, St.elems, roomy, rowOf, rowS, isStr, esz, tdOf, convV, buildV, fillV, partsV, okParts, fillL, D.whole, D.demoteC, D.demote, demoteL, D.global, D.flat, D.leaf, D.cells, TI.agg, TD.rowish, callOpV, moveL, CC, keepB, St.borrowL, St.borrow, D.isLsl, adoptR, adoptC, adoptCL, adoptL, adopt, List.toArray, Array.toList, Nat.reduceEqDiff, Nat.reduceAdd, Nat.reduceSub, Nat.reduceMul, Nat.reduceLeDiff, Nat.reduceLT, reduceIte, reduceCtorEq, forall_const, imp_self, Int.reduceNeg, Int.reduceLT, Int.reduceLE, Int.reduceGT, Int.reduceGE, Int.reduceAdd, Int.reduceSub, Int.reduceMul, Int.reduceToNat, Int.reduceEq, ne_eq, eq_self]
  · have h1 : ¬ (s.length : Int) ≥ p.length := by omega
    simp only [fi145, Tryd.f145, an145, strV, h1, h, T3, T9, EL, e_finWf, e_finWt, e_finMN, e_finMX, retM, meltV, tupV, D.asBox, D.row1, D.freeR, D.freeO, List.replicate_succ, stepD, accs, accP, accW, simpleOp, isAl, isExt, flipD, D.fresh1, D.row, D.plain, D.plain.plainL, St.close, St.close1, St.borrow, retV, resV, resL, outCL, outC, outL, outD, wantedV, opV, An.mid, thawV, St.settle, D.plainU, prune, envOf, get, put, eval, evalT, nz, argsV, capsV, ofV, binV, binV.aggV, unV, intV, eqOp, isConst, natV, optV, loadV, loadC, storeV, setC, St.at_, partV, partTy, indexAddrV, fieldAddrV, sliceV, sliceV.rowSl, sliceV.strSl, bounds, cutP, builtinV, lenV, maxL, maxV, appendV, St.elems, roomy, rowOf, rowS, isStr, esz, tdOf, convV, buildV, fillV, partsV, okParts, fillL, D.whole, D.demoteC, D.demote, demoteL, D.global, D.flat, D.leaf, D.cells, TI.agg, TD.rowish, callOpV, moveL, CC, keepB, St.borrowL, St.borrow, D.isLsl, adoptR, adoptC, adoptCL, adoptL, adopt, List.toArray, Array.toList, Nat.reduceEqDiff, Nat.reduceAdd, Nat.reduceSub, Nat.reduceMul, Nat.reduceLeDiff, Nat.reduceLT, reduceIte, reduceCtorEq, forall_const, imp_self, Int.reduceNeg, Int.reduceLT, Int.reduceLE, Int.reduceGT, Int.reduceGE, Int.reduceAdd, Int.reduceSub, Int.reduceMul, Int.reduceToNat, Int.reduceEq, ne_eq, eq_self]

end Go.Proofs.YtnhelkclkdfndaaDoor.V
