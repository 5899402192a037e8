/-
Layer 3, for other layers: Put.
-/
import Derived.Test.YtfkhijjabkhmmaaDoorSA
namespace Go.Proofs.YtfkhijjabkhmmaaDoor.V
open Go Go.RowKit
set_option linter.unusedSimpArgs false
set_option linter.unusedVariables false

/-! warren/varint.Put -/
def an65 : An := ⟨fun | 2 => some [1, 5] | _ => .none, fun _ => 0, fun _ => false, fun _ => .none⟩
noncomputable def fi65 : FI := ⟨2, 23, Tryd.f65.body.getD .skip, Tryd.f65.results.toList, an65, false, false, false⟩
theorem ok65 : FnOk Tryd.prog 65 fi65 := ⟨⟨Tryd.f65, Tryd.func65, by kernel_rfl, rfl, rfl, rfl⟩, by decide, by kernel_rfl, fun h => by cases h⟩
noncomputable def lp65_0 : Code := subC [1, 1, 0, 0, 0] (Tryd.f65.body.getD .skip)   -- head 2 keep [1, 5]
/-! warren/varint.Get -/
def an69 : An := ⟨fun | 3 => some [5, 8, 9, 10] | _ => .none, fun _ => 0, fun _ => false, fun _ => .none⟩
noncomputable def fi69 : FI := ⟨1, 47, Tryd.f69.body.getD .skip, Tryd.f69.results.toList, an69, false, false, false⟩
theorem ok69 : FnOk Tryd.prog 69 fi69 := ⟨⟨Tryd.f69, Tryd.func69, by kernel_rfl, rfl, rfl, rfl⟩, by decide, by kernel_rfl, fun h => by cases h⟩
noncomputable def lp69_0 : Code := subC [1, 1, 0, 1, 0, 0] (Tryd.f69.body.getD .skip)   -- head 3 keep [5, 8, 9, 10]
/-! warren/warrenref03.Put -/
def an40 : An := ⟨fun | 3 => some [1, 5] | _ => .none, fun _ => 0, fun _ => false, fun _ => .none⟩
noncomputable def fi40 : FI := ⟨2, 25, Tryd.f40.body.getD .skip, Tryd.f40.results.toList, an40, false, false, false⟩
theorem ok40 : FnOk Tryd.prog 40 fi40 := ⟨⟨Tryd.f40, Tryd.func40, by kernel_rfl, rfl, rfl, rfl⟩, by decide, by kernel_rfl, fun h => by cases h⟩
noncomputable def lp40_0 : Code := subC [1, 1, 1, 0, 0, 0] (Tryd.f40.body.getD .skip)   -- head 3 keep [1, 5]
/-! warren/warrenref03.Get -/
def an73 : An := ⟨fun | 2 => some [0, 5] | 12 => some [0, 5, 6, 7] | _ => .none, fun _ => 0, fun _ => false, fun _ => .none⟩
noncomputable def fi73 : FI := ⟨1, 72, Tryd.f73.body.getD .skip, Tryd.f73.results.toList, an73, false, false, false⟩
theorem ok73 : FnOk Tryd.prog 73 fi73 := ⟨⟨Tryd.f73, Tryd.func73, by kernel_rfl, rfl, rfl, rfl⟩, by decide, by kernel_rfl, fun h => by cases h⟩
noncomputable def lp73_0 : Code := subC [1, 1, 0, 0, 0] (Tryd.f73.body.getD .skip)   -- head 2 keep [0, 5]
noncomputable def lp73_1 : Code := subC [1, 1, 1, 1, 1, 1, 1, 0, 1, 0, 0] (Tryd.f73.body.getD .skip)   -- head 12 keep [0, 5, 6, 7]
structure LibVar (C : Callees) : Prop where
  f65 : Has T C 65 fi65
  f69 : Has T C 69 fi69
  f40 : Has T C 40 fi40
  f73 : Has T C 73 fi73
  vclone : ∀ (l : List UInt8) (B : Hp), l.length ≤ 1000000 → C 68 [.vec 1 (l.map byteD) .none] B = some (.vec 1 (l.map byteD) .fresh, B)

variable {C : Callees}

abbrev bvV (l : List UInt8) (p : Perm) : D := .vec 1 (l.map byteD) p

theorem vroomy {n : Nat} (h : n ≤ 1000000) : roomy n 1 = true := by
  simp only [roomy, nble, decide_eq_true_eq]; omega
theorem vappO {xs ys : List UInt8} (hl : xs.length + ys.length ≤ 1000000) (ρ : Env) (M) (B : Hp) :
    appendV 1 1 ⟨ρ, M, [true], B⟩ (.vec 1 (xs.map byteD) (.own 0)) (ys.map byteD) = some (.vec 1 ((xs ++ ys).map byteD) (.own 1), ⟨ρ, M, [false, true], B⟩) := by
  simp [appendV, vroomy hl]
theorem vappN {ys : List UInt8} (hl : ys.length ≤ 1000000) (ρ : Env) (M) (B : Hp) :
    appendV 1 1 ⟨ρ, M, [], B⟩ (.vec 1 [] .exact) (ys.map byteD) = some (.vec 1 (ys.map byteD) (.own 0), ⟨ρ, M, [true], B⟩) := by
  simp [appendV, vroomy hl]

def vputS (v : Nat) : List UInt8 := if h : v < 128 then [UInt8.ofNat v] else UInt8.ofNat (128 + v % 128) :: vputS (v / 128)
termination_by v
decreasing_by omega

theorem vputS_small {v : Nat} (h : v < 128) : vputS v = [UInt8.ofNat v] := by rw [vputS]; simp [h]
theorem vputS_big {v : Nat} (h : ¬ v < 128) : vputS v = UInt8.ofNat (128 + v % 128) :: vputS (v / 128) := by rw [vputS]; simp [h]

theorem vputS_len : ∀ (n v : Nat), v < 128 ^ n → 0 < n → (vputS v).length ≤ n
  | 0, v, _, h => absurd h (by omega)
  | n + 1, v, hv, _ => by
    by_cases h : v < 128
    · rw [vputS_small h]; simp
    · rw [vputS_big h]
      have h2 : v / 128 < 128 ^ n := by rw [Nat.pow_succ] at hv; omega
      have hn : 0 < n := by
        rcases Nat.eq_zero_or_pos n with rfl | h3
        · simp at hv; omega
        · exact h3
      have := vputS_len n (v / 128) h2 hn
      simp; omega

theorem vputS_len10 {v : Nat} (h : v < 18446744073709551616) : (vputS v).length ≤ 10 := vputS_len 10 v (Nat.lt_of_lt_of_le h (by decide)) (by decide)
theorem vputS_pos (v : Nat) : 0 < (vputS v).length := by
  by_cases h : v < 128
  · rw [vputS_small h]; simp
  · rw [vputS_big h]; simp

theorem or_128 (v : Nat) : bitsV .or .u8 (IntKind.u8.wrap (v : Int)) 128 = ((128 + v % 128 : Nat) : Int) := by
  rw [wrap_u8_mod]
  have e1 : (v : Int) % 256 = ((v % 256 : Nat) : Int) := by omega
  have e2 : (128 : Int) = ((128 : Nat) : Int) := rfl
  rw [e1, e2, bits_nat rfl _ _ _ (by show v % 256 < 2 ^ 8; omega) (by show 128 < 2 ^ 8; omega)]
  simp only []
  have hdec : ∀ x : Fin 256, (x.val ||| 128) = 128 + x.val % 128 := of_decide_eq_true (by kernel_rfl)
  have := hdec ⟨v % 256, by omega⟩
  simp only at this
  rw [this, show v % 256 % 128 = v % 128 by omega]

theorem shr_7 (v : Nat) : shrV .u64 (v : Int) 7 = ((v / 128 : Nat) : Int) := by
  simp [shrV, IntKind.bits, Int.fdiv_eq_ediv_of_nonneg]

theorem toNat_lo (v : Nat) : ((UInt8.ofNat (128 + v % 128)).toNat : Int) = ((128 + v % 128 : Nat) : Int) := by
  simp; omega

/-! ### Put -/
def st65 (B : Hp) (x : Nat × List UInt8) : St := ⟨[(1, .int .u64 x.1), (5, .vec 1 (x.2.map byteD) (.own 0))], [], [true], B⟩

theorem lo_app {l xs : List UInt8} {v v0 : Nat} (hv : ¬ v < 128) (h : xs ++ vputS v = l ++ vputS v0) : (xs ++ [UInt8.ofNat (128 + v % 128)]) ++ vputS (v / 128) = l ++ vputS v0 := by
  rw [← h, vputS_big hv]; simp

theorem len_of {l xs : List UInt8} {v v0 : Nat} (hv0 : v0 < 18446744073709551616) (h : xs ++ vputS v = l ++ vputS v0) : xs.length + 1 ≤ l.length + 10 := by
  have h1 := congrArg List.length h
  rw [List.length_append, List.length_append] at h1
  have := vputS_len10 hv0
  have := vputS_pos v
  omega

set_option maxRecDepth 10000 in
theorem loop65 (C : Callees) (B : Hp) (l : List UInt8) (v0 : Nat) (hv0 : v0 < 18446744073709551616) (hl : l.length ≤ 900000) (st : St) (hst : an65.at_ (some 2) st = st65 B (v0, l)) :
    ∃ x st', loopC T an65 C lp65_0 st = some (x, st') ∧ x = .exit 0 ∧ ∃ ρ w ys, st' = ⟨ρ, [], [true], B⟩ ∧ w < 128 ∧ get ρ 1 = .int .u64 (w : Nat) ∧ get ρ 5 = .vec 1 (ys.map byteD) (.own 0) ∧ ys ++ vputS w = l ++ vputS v0 := by
  refine loop_rule (st65 B) (fun x => x.1 ≤ v0 ∧ x.2 ++ vputS x.1 = l ++ vputS v0) (fun x => x.1) _ ?_ (v0, l) st hst ⟨Nat.le_refl _, rfl⟩
  rintro ⟨v, xs⟩ ⟨hv, hI⟩
  simp only at hv hI
  by_cases h : v < 128
  · right
    have h1 : ¬ (v : Int) ≥ 128 := by omega
    simp only [st65, lp65_0, subC, atC, Tryd.f65, an65, h1, T5, T23, T84, EL, e_finWf, e_finWt, e_finMN, e_finMX, retM, meltV, tupV, D.asBox, D.row1, D.freeR, D.freeO, List.replicate_succ, stepD, accs, accP, accW, simpleOp, isAl, isExt, flipD, D.fresh1, D.row, D.plain, D.plain.plainL, St.close, St.close1, St.borrow, retV, resV, resL, outCL, outC, outL, outD, wantedV, opV, An.mid, thawV, St.settle, D.plainU, prune, envOf, get, put, eval, evalT, nz, argsV, capsV, ofV, binV, binV.aggV, unV, intV, eqOp, isConst, natV, optV, loadV, loadC, storeV, setC, St.at_, partV, partTy, indexAddrV, fieldAddrV, sliceV, sliceV.rowSl, sliceV.strSl, bounds, cutP, builtinV, lenV, maxL, maxV, appendV, St.elems, roomy, rowOf, rowS, isStr, esz, tdOf, convV, buildV, fillV, partsV, okParts, fillL, D.whole, D.demoteC, D.demote, demoteL, D.global, D.flat, D.leaf, D.cells, TI.agg, TD.rowish, callOpV, moveL, CC, keepB, St.borrowL, St.borrow, D.isLsl, adoptR, adoptC, adoptCL, adoptL, adopt, List.toArray, Array.toList, Nat.reduceEqDiff, Nat.reduceAdd, Nat.reduceSub, Nat.reduceMul, Nat.reduceLeDiff, Nat.reduceLT, reduceIte, reduceCtorEq, forall_const, imp_self, Int.reduceNeg, Int.reduceLT, Int.reduceLE, Int.reduceGT, Int.reduceGE, Int.reduceAdd, Int.reduceSub, Int.reduceMul, Int.reduceToNat, Int.reduceEq, ne_eq, eq_self]
    exact ⟨_, _, rfl, by simp, rfl, _, _, _, rfl, h, rfl, rfl, hI⟩
  · left
    have h1 : (v : Int) ≥ 128 := by omega
    have hlen := len_of hv0 hI
    refine ⟨(v / 128, xs ++ [UInt8.ofNat (128 + v % 128)]), ?_, ⟨by show v / 128 ≤ v0; omega, lo_app h hI⟩, by show v / 128 < v; omega⟩
    have a1 : ∀ ρ M B, appendV 1 1 ⟨ρ, M, [true], B⟩ (.vec 1 (xs.map byteD) (.own 0)) [.int .u8 (128 + v % 128 : Nat)] = some (.vec 1 ((xs ++ [UInt8.ofNat (128 + v % 128)]).map byteD) (.own 1), ⟨ρ, M, [false, true], B⟩) := fun ρ M B => by
      have := vappO (xs := xs) (ys := [UInt8.ofNat (128 + v % 128)]) (by show xs.length + 1 ≤ _; omega) ρ M B
      simp only [List.map_cons, List.map_nil, byteD, toNat_lo] at this
      exact this
    simp only [st65, lp65_0, subC, atC, Tryd.f65, an65, h1, or_128, shr_7, a1, T5, T23, T84, EL, e_finWf, e_finWt, e_finMN, e_finMX, retM, meltV, tupV, D.asBox, D.row1, D.freeR, D.freeO, List.replicate_succ, stepD, accs, accP, accW, simpleOp, isAl, isExt, flipD, D.fresh1, D.row, D.plain, D.plain.plainL, St.close, St.close1, St.borrow, retV, resV, resL, outCL, outC, outL, outD, wantedV, opV, An.mid, thawV, St.settle, D.plainU, prune, envOf, get, put, eval, evalT, nz, argsV, capsV, ofV, binV, binV.aggV, unV, intV, eqOp, isConst, natV, optV, loadV, loadC, storeV, setC, St.at_, partV, partTy, indexAddrV, fieldAddrV, sliceV, sliceV.rowSl, sliceV.strSl, bounds, cutP, builtinV, lenV, maxL, maxV, St.elems, roomy, rowOf, rowS, isStr, esz, tdOf, convV, buildV, fillV, partsV, okParts, fillL, D.whole, D.demoteC, D.demote, demoteL, D.global, D.flat, D.leaf, D.cells, TI.agg, TD.rowish, callOpV, moveL, CC, keepB, St.borrowL, St.borrow, D.isLsl, adoptR, adoptC, adoptCL, adoptL, adopt, List.toArray, Array.toList, Nat.reduceEqDiff, Nat.reduceAdd, Nat.reduceSub, Nat.reduceMul, Nat.reduceLeDiff, Nat.reduceLT, reduceIte, reduceCtorEq, forall_const, imp_self, Int.reduceNeg, Int.reduceLT, Int.reduceLE, Int.reduceGT, Int.reduceGE, Int.reduceAdd, Int.reduceSub, Int.reduceMul, Int.reduceToNat, Int.reduceEq, ne_eq, eq_self]
    exact ⟨_, rfl, rfl⟩

theorem put_end {l ys : List UInt8} {w v0 : Nat} (hw : w < 128) (hv0 : v0 < 18446744073709551616) (hl : l.length ≤ 900000) (h : ys ++ vputS w = l ++ vputS v0) :
    IntKind.u8.wrap (w : Int) = w ∧ ∀ ρ M B, appendV 1 1 ⟨ρ, M, [true], B⟩ (.vec 1 (ys.map byteD) (.own 0)) [.int .u8 w] = some (.vec 1 ((l ++ vputS v0).map byteD) (.own 1), ⟨ρ, M, [false, true], B⟩) := by
  have hlen := len_of hv0 h
  refine ⟨wrap_u8 (by omega) (by omega), fun ρ M B => ?_⟩
  have := vappO (xs := ys) (ys := [UInt8.ofNat w]) (by show ys.length + 1 ≤ _; omega) ρ M B
  have hto : ((UInt8.ofNat w).toNat : Int) = w := by simp; omega
  rw [vputS_small hw] at h
  rw [h] at this
  simp only [List.map_cons, List.map_nil, byteD, hto] at this
  exact this

set_option maxRecDepth 10000 in
theorem run65 (hC : LibVar C) (l : List UInt8) (v : Nat) (hv : v < 18446744073709551616) (hl : l.length ≤ 900000) (B : Hp) : runV T C fi65 [bvV l .none, .int .u64 v] B = some (.vec 1 ((l ++ vputS v).map byteD) .fresh, B) := by
  rw [e_run _ _ _ rfl]
  have c1 := hC.vclone l B (by omega)
  simp only [fi65, Tryd.f65, an65, c1, T5, T23, T84, EL, e_finWf, e_finWt, e_finMN, e_finMX, retM, meltV, tupV, D.asBox, D.row1, D.freeR, D.freeO, List.replicate_succ, stepD, accs, accP, accW, simpleOp, isAl, isExt, flipD, D.fresh1, D.row, D.plain, D.plain.plainL, St.close, St.close1, St.borrow, retV, resV, resL, outCL, outC, outL, outD, wantedV, opV, An.mid, thawV, St.settle, D.plainU, prune, envOf, get, put, eval, evalT, nz, argsV, capsV, ofV, binV, binV.aggV, unV, intV, eqOp, isConst, natV, optV, loadV, loadC, storeV, setC, St.at_, partV, partTy, indexAddrV, fieldAddrV, sliceV, sliceV.rowSl, sliceV.strSl, bounds, cutP, builtinV, lenV, maxL, maxV, appendV, St.elems, roomy, rowOf, rowS, isStr, esz, tdOf, convV, buildV, fillV, partsV, okParts, fillL, D.whole, D.demoteC, D.demote, demoteL, D.global, D.flat, D.leaf, D.cells, TI.agg, TD.rowish, callOpV, moveL, CC, keepB, St.borrowL, St.borrow, D.isLsl, adoptR, adoptC, adoptCL, adoptL, adopt, List.toArray, Array.toList, Nat.reduceEqDiff, Nat.reduceAdd, Nat.reduceSub, Nat.reduceMul, Nat.reduceLeDiff, Nat.reduceLT, reduceIte, reduceCtorEq, forall_const, imp_self, Int.reduceNeg, Int.reduceLT, Int.reduceLE, Int.reduceGT, Int.reduceGE, Int.reduceAdd, Int.reduceSub, Int.reduceMul, Int.reduceToNat, Int.reduceEq, ne_eq, eq_self]
  refine' in_loop (c' := lp65_0) (fin T _ _ _) ?h rfl ?q
  case h =>
    refine loop65 C B l v hv hl _ ?_
    simp only [an65, ren_map, toks_map, boxes_map, st65, An.at_, tidyV, tidyW, tidyB, tidyT, sift, envBoxes, envToks, conToks, D.toks, D.tok1, toksL, D.boxes, D.box1, boxesL, memN, posN, renE, D.ren, D.ren1, renL, renB, St.content, St.boxOk, St.tokOk, trues, T5, T23, T84, EL, e_finWf, e_finWt, e_finMN, e_finMX, retM, meltV, tupV, D.asBox, D.row1, D.freeR, D.freeO, List.replicate_succ, stepD, accs, accP, accW, simpleOp, isAl, isExt, flipD, D.fresh1, D.row, D.plain, D.plain.plainL, St.close, St.close1, St.borrow, retV, resV, resL, outCL, outC, outL, outD, wantedV, opV, An.mid, thawV, St.settle, D.plainU, prune, envOf, get, put, eval, evalT, nz, argsV, capsV, ofV, binV, binV.aggV, unV, intV, eqOp, isConst, natV, optV, loadV, loadC, storeV, setC, St.at_, partV, partTy, indexAddrV, fieldAddrV, sliceV, sliceV.rowSl, sliceV.strSl, bounds, cutP, builtinV, lenV, maxL, maxV, appendV, St.elems, roomy, rowOf, rowS, isStr, esz, tdOf, convV, buildV, fillV, partsV, okParts, fillL, D.whole, D.demoteC, D.demote, demoteL, D.global, D.flat, D.leaf, D.cells, TI.agg, TD.rowish, callOpV, moveL, CC, keepB, St.borrowL, St.borrow, D.isLsl, adoptR, adoptC, adoptCL, adoptL, adopt, List.toArray, Array.toList, Nat.reduceEqDiff, Nat.reduceAdd, Nat.reduceSub, Nat.reduceMul, Nat.reduceLeDiff, Nat.reduceLT, reduceIte, reduceCtorEq, forall_const, imp_self, Int.reduceNeg, Int.reduceLT, Int.reduceLE, Int.reduceGT, Int.reduceGE, Int.reduceAdd, Int.reduceSub, Int.reduceMul, Int.reduceToNat, Int.reduceEq, ne_eq, eq_self]
    all_goals rfl
  rintro x st' ⟨rfl, ρ, w, ys, rfl, hw, hg1, hg2, he⟩
  obtain ⟨w8, a1⟩ := put_end hw hv hl he
  simp only [hg1, hg2, w8, a1, T5, T23, T84, EL, e_finWf, e_finWt, e_finMN, e_finMX, retM, meltV, tupV, D.asBox, D.row1, D.freeR, D.freeO, List.replicate_succ, stepD, accs, accP, accW, simpleOp, isAl, isExt, flipD, D.fresh1, D.row, D.plain, D.plain.plainL, St.close, St.close1, St.borrow, retV, resV, resL, outCL, outC, outL, outD, wantedV, opV, An.mid, thawV, St.settle, D.plainU, prune, envOf, get, put, eval, evalT, nz, argsV, capsV, ofV, binV, binV.aggV, unV, intV, eqOp, isConst, natV, optV, loadV, loadC, storeV, setC, St.at_, partV, partTy, indexAddrV, fieldAddrV, sliceV, sliceV.rowSl, sliceV.strSl, bounds, cutP, builtinV, lenV, maxL, maxV, St.elems, roomy, rowOf, rowS, isStr, esz, tdOf, convV, buildV, fillV, partsV, okParts, fillL, D.whole, D.demoteC, D.demote, demoteL, D.global, D.flat, D.leaf, D.cells, TI.agg, TD.rowish, callOpV, moveL, CC, keepB, St.borrowL, St.borrow, D.isLsl, adoptR, adoptC, adoptCL, adoptL, adopt, List.toArray, Array.toList, Nat.reduceEqDiff, Nat.reduceAdd, Nat.reduceSub, Nat.reduceMul, Nat.reduceLeDiff, Nat.reduceLT, reduceIte, reduceCtorEq, forall_const, imp_self, Int.reduceNeg, Int.reduceLT, Int.reduceLE, Int.reduceGT, Int.reduceGE, Int.reduceAdd, Int.reduceSub, Int.reduceMul, Int.reduceToNat, Int.reduceEq, ne_eq, eq_self]
theorem c65 (hC : LibVar C) (l : List UInt8) (v : Nat) (hv : v < 18446744073709551616) (hl : l.length ≤ 900000) (B : Hp) : C 65 [.vec 1 (l.map byteD) .none, .int .u64 v] B = some (.vec 1 ((l ++ vputS v).map byteD) .fresh, B) := hC.f65 _ _ _ (run65 hC l v hv hl B)

/-! ### The document's Put -/
def st40 (B : Hp) (x : Nat × List UInt8) : St := ⟨[(1, .int .u64 x.1), (5, .vec 1 (x.2.map byteD) (.own 0))], [], [true], B⟩

set_option maxRecDepth 10000 in
theorem loop40 (C : Callees) (B : Hp) (l : List UInt8) (v0 : Nat) (hv0 : v0 < 18446744073709551616) (hl : l.length ≤ 900000) (st : St) (hst : an40.at_ (some 3) st = st40 B (v0, l)) :
    ∃ x st', loopC T an40 C lp40_0 st = some (x, st') ∧ x = .exit 0 ∧ ∃ ρ w ys, st' = ⟨ρ, [], [true], B⟩ ∧ w < 128 ∧ get ρ 1 = .int .u64 (w : Nat) ∧ get ρ 5 = .vec 1 (ys.map byteD) (.own 0) ∧ ys ++ vputS w = l ++ vputS v0 := by
  refine loop_rule (st40 B) (fun x => x.1 ≤ v0 ∧ x.2 ++ vputS x.1 = l ++ vputS v0) (fun x => x.1) _ ?_ (v0, l) st hst ⟨Nat.le_refl _, rfl⟩
  rintro ⟨v, xs⟩ ⟨hv, hI⟩
  simp only at hv hI
  by_cases h : v < 128
  · right
    have h1 : ¬ (v : Int) > 127 := by omega
    simp only [st40, lp40_0, subC, atC, Tryd.f40, an40, h1, T5, T23, T84, EL, e_finWf, e_finWt, e_finMN, e_finMX, retM, meltV, tupV, D.asBox, D.row1, D.freeR, D.freeO, List.replicate_succ, stepD, accs, accP, accW, simpleOp, isAl, isExt, flipD, D.fresh1, D.row, D.plain, D.plain.plainL, St.close, St.close1, St.borrow, retV, resV, resL, outCL, outC, outL, outD, wantedV, opV, An.mid, thawV, St.settle, D.plainU, prune, envOf, get, put, eval, evalT, nz, argsV, capsV, ofV, binV, binV.aggV, unV, intV, eqOp, isConst, natV, optV, loadV, loadC, storeV, setC, St.at_, partV, partTy, indexAddrV, fieldAddrV, sliceV, sliceV.rowSl, sliceV.strSl, bounds, cutP, builtinV, lenV, maxL, maxV, appendV, St.elems, roomy, rowOf, rowS, isStr, esz, tdOf, convV, buildV, fillV, partsV, okParts, fillL, D.whole, D.demoteC, D.demote, demoteL, D.global, D.flat, D.leaf, D.cells, TI.agg, TD.rowish, callOpV, moveL, CC, keepB, St.borrowL, St.borrow, D.isLsl, adoptR, adoptC, adoptCL, adoptL, adopt, List.toArray, Array.toList, Nat.reduceEqDiff, Nat.reduceAdd, Nat.reduceSub, Nat.reduceMul, Nat.reduceLeDiff, Nat.reduceLT, reduceIte, reduceCtorEq, forall_const, imp_self, Int.reduceNeg, Int.reduceLT, Int.reduceLE, Int.reduceGT, Int.reduceGE, Int.reduceAdd, Int.reduceSub, Int.reduceMul, Int.reduceToNat, Int.reduceEq, ne_eq, eq_self]
    exact ⟨_, _, rfl, by simp, rfl, _, _, _, rfl, h, rfl, rfl, hI⟩
  · left
    have h1 : (v : Int) > 127 := by omega
    have hlen := len_of hv0 hI
    refine ⟨(v / 128, xs ++ [UInt8.ofNat (128 + v % 128)]), ?_, ⟨by show v / 128 ≤ v0; omega, lo_app h hI⟩, by show v / 128 < v; omega⟩
    have h2 : IntKind.u8.wrap (IntKind.u64.wrap (128 + (v : Int).tmod 128)) = ((128 + v % 128 : Nat) : Int) := by
      rw [Int.tmod_eq_emod_of_nonneg (by omega), wrap_u64 (by omega) (by omega), wrap_u8 (by omega) (by omega)]
      omega
    have h3 : IntKind.u64.wrap ((v : Int).tdiv 128) = ((v / 128 : Nat) : Int) := by
      rw [Int.tdiv_eq_ediv_of_nonneg (by omega), wrap_u64 (by omega) (by omega)]
      omega
    have a1 : ∀ ρ M B, appendV 1 1 ⟨ρ, M, [true], B⟩ (.vec 1 (xs.map byteD) (.own 0)) [.int .u8 (128 + v % 128 : Nat)] = some (.vec 1 ((xs ++ [UInt8.ofNat (128 + v % 128)]).map byteD) (.own 1), ⟨ρ, M, [false, true], B⟩) := fun ρ M B => by
      have := vappO (xs := xs) (ys := [UInt8.ofNat (128 + v % 128)]) (by show xs.length + 1 ≤ _; omega) ρ M B
      simp only [List.map_cons, List.map_nil, byteD, toNat_lo] at this
      exact this
    simp only [st40, lp40_0, subC, atC, Tryd.f40, an40, h1, h2, h3, a1, T5, T23, T84, EL, e_finWf, e_finWt, e_finMN, e_finMX, retM, meltV, tupV, D.asBox, D.row1, D.freeR, D.freeO, List.replicate_succ, stepD, accs, accP, accW, simpleOp, isAl, isExt, flipD, D.fresh1, D.row, D.plain, D.plain.plainL, St.close, St.close1, St.borrow, retV, resV, resL, outCL, outC, outL, outD, wantedV, opV, An.mid, thawV, St.settle, D.plainU, prune, envOf, get, put, eval, evalT, nz, argsV, capsV, ofV, binV, binV.aggV, unV, intV, eqOp, isConst, natV, optV, loadV, loadC, storeV, setC, St.at_, partV, partTy, indexAddrV, fieldAddrV, sliceV, sliceV.rowSl, sliceV.strSl, bounds, cutP, builtinV, lenV, maxL, maxV, St.elems, roomy, rowOf, rowS, isStr, esz, tdOf, convV, buildV, fillV, partsV, okParts, fillL, D.whole, D.demoteC, D.demote, demoteL, D.global, D.flat, D.leaf, D.cells, TI.agg, TD.rowish, callOpV, moveL, CC, keepB, St.borrowL, St.borrow, D.isLsl, adoptR, adoptC, adoptCL, adoptL, adopt, List.toArray, Array.toList, Nat.reduceEqDiff, Nat.reduceAdd, Nat.reduceSub, Nat.reduceMul, Nat.reduceLeDiff, Nat.reduceLT, reduceIte, reduceCtorEq, forall_const, imp_self, Int.reduceNeg, Int.reduceLT, Int.reduceLE, Int.reduceGT, Int.reduceGE, Int.reduceAdd, Int.reduceSub, Int.reduceMul, Int.reduceToNat, Int.reduceEq, ne_eq, eq_self]
    exact ⟨_, rfl, rfl⟩

set_option maxRecDepth 10000 in
theorem run40 (C : Callees) (l : List UInt8) (v : Nat) (hv : v < 18446744073709551616) (hl : l.length ≤ 900000) (B : Hp) : runV T C fi40 [bvV l .none, .int .u64 v] B = some (.vec 1 ((l ++ vputS v).map byteD) .fresh, B) := by
  rw [e_run _ _ _ rfl]
  have a0 := fun ρ M B => vappN (ys := l) (by omega) ρ M B
  simp only [fi40, Tryd.f40, an40, a0, T5, T23, T84, EL, e_finWf, e_finWt, e_finMN, e_finMX, retM, meltV, tupV, D.asBox, D.row1, D.freeR, D.freeO, List.replicate_succ, stepD, accs, accP, accW, simpleOp, isAl, isExt, flipD, D.fresh1, D.row, D.plain, D.plain.plainL, St.close, St.close1, St.borrow, retV, resV, resL, outCL, outC, outL, outD, wantedV, opV, An.mid, thawV, St.settle, D.plainU, prune, envOf, get, put, eval, evalT, nz, argsV, capsV, ofV, binV, binV.aggV, unV, intV, eqOp, isConst, natV, optV, loadV, loadC, storeV, setC, St.at_, partV, partTy, indexAddrV, fieldAddrV, sliceV, sliceV.rowSl, sliceV.strSl, bounds, cutP, builtinV, lenV, maxL, maxV, St.elems, roomy, rowOf, rowS, isStr, esz, tdOf, convV, buildV, fillV, partsV, okParts, fillL, D.whole, D.demoteC, D.demote, demoteL, D.global, D.flat, D.leaf, D.cells, TI.agg, TD.rowish, callOpV, moveL, CC, keepB, St.borrowL, St.borrow, D.isLsl, adoptR, adoptC, adoptCL, adoptL, adopt, List.toArray, Array.toList, Nat.reduceEqDiff, Nat.reduceAdd, Nat.reduceSub, Nat.reduceMul, Nat.reduceLeDiff, Nat.reduceLT, reduceIte, reduceCtorEq, forall_const, imp_self, Int.reduceNeg, Int.reduceLT, Int.reduceLE, Int.reduceGT, Int.reduceGE, Int.reduceAdd, Int.reduceSub, Int.reduceMul, Int.reduceToNat, Int.reduceEq, ne_eq, eq_self]
  refine' in_loop (c' := lp40_0) (fin T _ _ _) ?h rfl ?q
  case h =>
    refine loop40 C B l v hv hl _ ?_
    simp only [an40, ren_map, toks_map, boxes_map, st40, An.at_, tidyV, tidyW, tidyB, tidyT, sift, envBoxes, envToks, conToks, D.toks, D.tok1, toksL, D.boxes, D.box1, boxesL, memN, posN, renE, D.ren, D.ren1, renL, renB, St.content, St.boxOk, St.tokOk, trues, T5, T23, T84, EL, e_finWf, e_finWt, e_finMN, e_finMX, retM, meltV, tupV, D.asBox, D.row1, D.freeR, D.freeO, List.replicate_succ, stepD, accs, accP, accW, simpleOp, isAl, isExt, flipD, D.fresh1, D.row, D.plain, D.plain.plainL, St.close, St.close1, St.borrow, retV, resV, resL, outCL, outC, outL, outD, wantedV, opV, An.mid, thawV, St.settle, D.plainU, prune, envOf, get, put, eval, evalT, nz, argsV, capsV, ofV, binV, binV.aggV, unV, intV, eqOp, isConst, natV, optV, loadV, loadC, storeV, setC, St.at_, partV, partTy, indexAddrV, fieldAddrV, sliceV, sliceV.rowSl, sliceV.strSl, bounds, cutP, builtinV, lenV, maxL, maxV, appendV, St.elems, roomy, rowOf, rowS, isStr, esz, tdOf, convV, buildV, fillV, partsV, okParts, fillL, D.whole, D.demoteC, D.demote, demoteL, D.global, D.flat, D.leaf, D.cells, TI.agg, TD.rowish, callOpV, moveL, CC, keepB, St.borrowL, St.borrow, D.isLsl, adoptR, adoptC, adoptCL, adoptL, adopt, List.toArray, Array.toList, Nat.reduceEqDiff, Nat.reduceAdd, Nat.reduceSub, Nat.reduceMul, Nat.reduceLeDiff, Nat.reduceLT, reduceIte, reduceCtorEq, forall_const, imp_self, Int.reduceNeg, Int.reduceLT, Int.reduceLE, Int.reduceGT, Int.reduceGE, Int.reduceAdd, Int.reduceSub, Int.reduceMul, Int.reduceToNat, Int.reduceEq, ne_eq, eq_self]
    all_goals rfl
  rintro x st' ⟨rfl, ρ, w, ys, rfl, hw, hg1, hg2, he⟩
  obtain ⟨w8, a1⟩ := put_end hw hv hl he
  simp only [hg1, hg2, w8, a1, T5, T23, T84, EL, e_finWf, e_finWt, e_finMN, e_finMX, retM, meltV, tupV, D.asBox, D.row1, D.freeR, D.freeO, List.replicate_succ, stepD, accs, accP, accW, simpleOp, isAl, isExt, flipD, D.fresh1, D.row, D.plain, D.plain.plainL, St.close, St.close1, St.borrow, retV, resV, resL, outCL, outC, outL, outD, wantedV, opV, An.mid, thawV, St.settle, D.plainU, prune, envOf, get, put, eval, evalT, nz, argsV, capsV, ofV, binV, binV.aggV, unV, intV, eqOp, isConst, natV, optV, loadV, loadC, storeV, setC, St.at_, partV, partTy, indexAddrV, fieldAddrV, sliceV, sliceV.rowSl, sliceV.strSl, bounds, cutP, builtinV, lenV, maxL, maxV, St.elems, roomy, rowOf, rowS, isStr, esz, tdOf, convV, buildV, fillV, partsV, okParts, fillL, D.whole, D.demoteC, D.demote, demoteL, D.global, D.flat, D.leaf, D.cells, TI.agg, TD.rowish, callOpV, moveL, CC, keepB, St.borrowL, St.borrow, D.isLsl, adoptR, adoptC, adoptCL, adoptL, adopt, List.toArray, Array.toList, Nat.reduceEqDiff, Nat.reduceAdd, Nat.reduceSub, Nat.reduceMul, Nat.reduceLeDiff, Nat.reduceLT, reduceIte, reduceCtorEq, forall_const, imp_self, Int.reduceNeg, Int.reduceLT, Int.reduceLE, Int.reduceGT, Int.reduceGE, Int.reduceAdd, Int.reduceSub, Int.reduceMul, Int.reduceToNat, Int.reduceEq, ne_eq, eq_self]
theorem c40 (hC : LibVar C) (l : List UInt8) (v : Nat) (hv : v < 18446744073709551616) (hl : l.length ≤ 900000) (B : Hp) : C 40 [.vec 1 (l.map byteD) .none, .int .u64 v] B = some (.vec 1 ((l ++ vputS v).map byteD) .fresh, B) := hC.f40 _ _ _ (run40 C l v hv hl B)

end Go.Proofs.YtfkhijjabkhmmaaDoor.V
