/-
Layer 8: cells put; cells told; a key found.
-/
import Derived.Test.YtfkhijjabkhmmaaDoorGB
namespace Go.Proofs.YtfkhijjabkhmmaaDoor.V
open Go Go.RowKit
set_option linter.unusedSimpArgs false
set_option linter.unusedVariables false

/-! warren/leaf.Find -/
def an20 : An := ⟨fun _ => .none, fun _ => 0, fun _ => false, fun _ => .none⟩
noncomputable def fi20 : FI := ⟨2, 11, Tryd.f20.body.getD .skip, Tryd.f20.results.toList, an20, false, false, false⟩
theorem ok20 : FnOk Tryd.prog 20 fi20 := ⟨⟨Tryd.f20, Tryd.func20, by kernel_rfl, rfl, rfl, rfl⟩, by decide, by kernel_rfl, fun h => by cases h⟩
/-! warren/leaf.Find$1 -/
def an54 : An := ⟨fun _ => .none, fun _ => 0, fun _ => false, fun _ => .none⟩
noncomputable def fi54 : FI := ⟨2, 9, Tryd.f54.body.getD .skip, Tryd.f54.results.toList, an54, false, false, false⟩
theorem ok54 : FnOk Tryd.prog 54 fi54 := ⟨⟨Tryd.f54, Tryd.func54, by kernel_rfl, rfl, rfl, rfl⟩, by decide, by kernel_rfl, fun h => by cases h⟩
/-! slices.BinarySearchFunc[[]warren/leaf.Cell,warren/leaf.Cell,string] -/
def an53 : An := ⟨fun | 3 => some [0, 1, 2, 8, 9, 10] | _ => .none, fun _ => 0, fun _ => false, fun _ => .none⟩
noncomputable def fi53 : FI := ⟨3, 49, Tryd.f53.body.getD .skip, Tryd.f53.results.toList, an53, false, false, false⟩
theorem ok53 : FnOk Tryd.prog 53 fi53 := ⟨⟨Tryd.f53, Tryd.func53, by kernel_rfl, rfl, rfl, rfl⟩, by decide, by kernel_rfl, fun h => by cases h⟩
noncomputable def lp53_0 : Code := subC [1, 1, 1, 0, 0, 0] (Tryd.f53.body.getD .skip)   -- head 3 keep [0, 1, 2, 8, 9, 10]
structure Lib08B (C : Callees) : Prop extends Lib08A C where
  f20 : Has T C 20 fi20
  f54 : Has T C 54 fi54
  f53 : Has T C 53 fi53

variable {C : Callees}

theorem put2 (l : List UInt8) (v : Nat) : putS l v 2 = l ++ bes v 2 := rfl
theorem one_le {c : Ce} (h : okC c = true) : (oneC c).length ≤ 130 := by
  rw [one_len h]; exact size_le h

set_option maxRecDepth 20000 in
set_option maxHeartbeats 1000000 in
theorem run39 (hC : Lib08A C) (b : List UInt8) (hb : b.length ≤ 90000) (c : Ce) (ho : okC c = true) (B : Hp) : runV T C fi39 [.vec 1 (b.map byteD) .none, ceD c] B = some (.vec 1 ((b ++ oneC c).map byteD) .fresh, B) := by
  rw [e_run _ _ _ rfl]
  obtain ⟨h1, h2, h3, h4, h5, h6⟩ := (okC_iff c).1 ho
  have l1 := vputS_len10 (v := c.k.length) (by omega)
  have l2 := vputS_len10 (v := c.g.toNat) (by omega)
  have c1 := c66 hC.toLibPackB b c.k (by omega) (by omega)
  have c2 := c38 hC.toLibPack (b ++ vputS c.k.length ++ c.k) c.g.toNat (by omega) (by simp only [List.length_append]; omega)
  have c3 := c51 hC c.g
  have w1 : IntKind.u64.wrap c.g = (c.g.toNat : Nat) := by rw [wrap_u64 (by omega) (by omega)]; omega
  have e : b ++ oneC c = b ++ vputS c.k.length ++ c.k ++ vputS c.g.toNat ++ lastB c := by unfold oneC; simp only [List.append_assoc]
  rw [e, ceD_eq]
  have hl : (b ++ vputS c.k.length ++ c.k ++ vputS c.g.toNat).length ≤ 100000 := by simp only [List.length_append]; omega
  generalize b ++ vputS c.k.length ++ c.k ++ vputS c.g.toNat = q at c2 hl
  generalize b ++ vputS c.k.length ++ c.k = q1 at c1 c2
  unfold lastB
  by_cases hg : c.g > 64
  · rw [decide_eq_true hg] at c3
    have := h5 hg
    have w2 : IntKind.u64.wrap c.p = (c.p.toNat : Nat) := by rw [wrap_u64 (by omega) (by omega)]; omega
    have c4 := j67 hC.toLibIntC q c.p.toNat 2 (by omega) (by omega)
    rw [put2] at c4
    simp only [hg, if_true]
    simp only [fi39, Tryd.f39, an39, c1, c2, c3, c4, w1, w2, T3, T5, T9, T23, T45, T84, EL, e_finWf, e_finWt, e_finMN, e_finMX, retM, meltV, tupV, D.asBox, D.row1, D.freeR, D.freeO, List.replicate_succ, stepD, accs, accP, accW, simpleOp, isAl, isExt, flipD, D.fresh1, D.row, D.plain, D.plain.plainL, St.close, St.close1, St.borrow, retV, resV, resL, outCL, outC, outL, outD, wantedV, opV, An.mid, thawV, St.settle, D.plainU, prune, envOf, get, put, eval, evalT, nz, argsV, capsV, ofV, binV, binV.aggV, unV, intV, eqOp, isConst, natV, optV, loadV, loadC, storeV, setC, St.at_, partV, partTy, indexAddrV, fieldAddrV, sliceV, sliceV.rowSl, sliceV.strSl, bounds, cutP, builtinV, lenV, maxL, maxV, appendV, St.elems, roomy, rowOf, rowS, isStr, esz, tdOf, convV, buildV, fillV, partsV, okParts, fillL, D.whole, D.demoteC, D.demote, demoteL, D.global, D.flat, D.leaf, D.cells, TI.agg, TD.rowish, callOpV, moveL, CC, keepB, St.borrowL, St.borrow, D.isLsl, adoptR, adoptC, adoptCL, adoptL, adopt, List.toArray, Array.toList, Nat.reduceEqDiff, Nat.reduceAdd, Nat.reduceSub, Nat.reduceMul, Nat.reduceLeDiff, Nat.reduceLT, reduceIte, reduceCtorEq, forall_const, imp_self, Int.reduceNeg, Int.reduceLT, Int.reduceLE, Int.reduceGT, Int.reduceGE, Int.reduceAdd, Int.reduceSub, Int.reduceMul, Int.reduceToNat, Int.reduceEq, ne_eq, eq_self]
  · rw [decide_eq_false hg] at c3
    have := (h6 hg).1
    have a1 := fun ρ M B => app_own (xs := q) (ys := c.v) (i := 1) (τ := [true, true]) rfl (by omega) ρ M B
    simp only [hg, if_false]
    simp only [fi39, Tryd.f39, an39, c1, c2, c3, w1, a1, T3, T5, T9, T23, T45, T84, EL, e_finWf, e_finWt, e_finMN, e_finMX, retM, meltV, tupV, D.asBox, D.row1, D.freeR, D.freeO, List.replicate_succ, stepD, accs, accP, accW, simpleOp, isAl, isExt, flipD, D.fresh1, D.row, D.plain, D.plain.plainL, St.close, St.close1, St.borrow, retV, resV, resL, outCL, outC, outL, outD, wantedV, opV, An.mid, thawV, St.settle, D.plainU, prune, envOf, get, put, eval, evalT, nz, argsV, capsV, ofV, binV, binV.aggV, unV, intV, eqOp, isConst, natV, optV, loadV, loadC, storeV, setC, St.at_, partV, partTy, indexAddrV, fieldAddrV, sliceV, sliceV.rowSl, sliceV.strSl, bounds, cutP, builtinV, lenV, maxL, maxV, St.elems, roomy, rowOf, rowS, isStr, esz, tdOf, convV, buildV, fillV, partsV, okParts, fillL, D.whole, D.demoteC, D.demote, demoteL, D.global, D.flat, D.leaf, D.cells, TI.agg, TD.rowish, callOpV, moveL, CC, keepB, St.borrowL, St.borrow, D.isLsl, adoptR, adoptC, adoptCL, adoptL, adopt, List.toArray, Array.toList, Nat.reduceEqDiff, Nat.reduceAdd, Nat.reduceSub, Nat.reduceMul, Nat.reduceLeDiff, Nat.reduceLT, reduceIte, reduceCtorEq, forall_const, imp_self, Int.reduceNeg, Int.reduceLT, Int.reduceLE, Int.reduceGT, Int.reduceGE, Int.reduceAdd, Int.reduceSub, Int.reduceMul, Int.reduceToNat, Int.reduceEq, ne_eq, eq_self]
theorem c39 (hC : Lib08A C) (b : List UInt8) (hb : b.length ≤ 90000) (c : Ce) (ho : okC c = true) (B : Hp) : C 39 [.vec 1 (b.map byteD) .none, .agg [.str c.k, .str c.v, .int .i64 c.g, .int .i64 c.p]] B = some (.vec 1 ((b ++ oneC c).map byteD) .fresh, B) := hC.f39 _ _ _ (run39 hC b hb c ho B)

theorem byteAt_n8 {s i v : Nat} (h : s / 256 ^ i % 256 = v) : ((byteAt s i).toNat : Int) = (v : Nat) := by
  unfold byteAt
  rw [UInt8.toNat_ofNat', ← h]
theorem kid_bytes8 {n : Int} (h0 : 2 ≤ n) (h1 : n ≤ 1023) : IntKind.u8.wrap (IntKind.i64.wrap (n.tdiv 256)) = ((byteAt n.toNat 1).toNat : Int) ∧ IntKind.u8.wrap (n.tmod 256) = ((byteAt n.toNat 0).toNat : Int) := by
  constructor
  · rw [Int.tdiv_eq_ediv_of_nonneg (by omega), wrapI (by omega) (by omega), wrap_u8 (by omega) (by omega), byteAt_n8 (v := n.toNat / 256) (by omega)]; omega
  · rw [Int.tmod_eq_emod_of_nonneg (by omega), wrap_u8 (by omega) (by omega), byteAt_n8 (v := n.toNat % 256) (by omega)]; omega

set_option maxRecDepth 20000 in
set_option maxHeartbeats 1000000 in
theorem run41 (hC : Lib08A C) (c : Ce) (ho : okC c = true) (B : Hp) : runV T C fi41 [ceD c] B = some (.vec 1 ((oneC c).map byteD) .fresh, B) := by
  rw [e_run _ _ _ rfl]
  obtain ⟨h1, h2, h3, h4, h5, h6⟩ := (okC_iff c).1 ho
  have l1 := vputS_len10 (v := c.k.length) (by omega)
  have l2 := vputS_len10 (v := c.g.toNat) (by omega)
  have c1 : ∀ B, C 52 [.vec 1 [] .none, .vec 1 (c.k.map byteD) .none] B = some (.vec 1 ((vputS c.k.length ++ c.k).map byteD) .fresh, B) := c52 hC.toLibPackB [] c.k (by decide) (by omega)
  have c2 := c40 hC.toLibVar (vputS c.k.length ++ c.k) c.g.toNat (by omega) (by simp only [List.length_append]; omega)
  have w1 : IntKind.u64.wrap c.g = (c.g.toNat : Nat) := by rw [wrap_u64 (by omega) (by omega)]; omega
  rw [ceD_eq]
  unfold oneC
  have hl : (vputS c.k.length ++ c.k ++ vputS c.g.toNat).length ≤ 100000 := by simp only [List.length_append]; omega
  generalize vputS c.k.length ++ c.k ++ vputS c.g.toNat = q at c2 hl
  generalize vputS c.k.length ++ c.k = q1 at c1 c2
  unfold lastB
  have r2 : List.replicate 2 (D.int .u8 0) = [D.int .u8 0, D.int .u8 0] := rfl
  by_cases hg : c.g > 64
  · have hp := h5 hg
    obtain ⟨y1, y2⟩ := kid_bytes8 hp.2.1 hp.2.2
    have a1 := fun ρ M B => app_own (xs := q) (ys := bes c.p.toNat 2) (i := 1) (τ := [true, true]) rfl (by rw [bes_length]; omega) ρ M B
    simp only [hg, if_true]
    rw [bes_2] at a1 ⊢
    generalize (byteAt c.p.toNat 1) = b1 at y1 a1
    generalize (byteAt c.p.toNat 0) = b0 at y2 a1
    generalize hq : q ++ [b1, b0] = q2 at a1
    simp only [List.map_cons, List.map_nil, byteD, List.length_cons, List.length_nil, List.set_cons_zero, List.set_cons_succ, List.cons_append, List.nil_append] at a1
    simp only [fi41, Tryd.f41, an41, c1, c2, w1, hg, y1, y2, r2, a1, T3, T5, T9, T23, T26, T84, EL, e_finWf, e_finWt, e_finMN, e_finMX, retM, meltV, tupV, D.asBox, D.row1, D.freeR, D.freeO, List.replicate_succ, stepD, accs, accP, accW, simpleOp, isAl, isExt, flipD, D.fresh1, D.row, D.plain, D.plain.plainL, St.close, St.close1, St.borrow, retV, resV, resL, outCL, outC, outL, outD, wantedV, opV, An.mid, thawV, St.settle, D.plainU, prune, envOf, get, put, eval, evalT, nz, argsV, capsV, ofV, binV, binV.aggV, unV, intV, eqOp, isConst, natV, optV, loadV, loadC, storeV, setC, St.at_, partV, partTy, indexAddrV, fieldAddrV, sliceV, sliceV.rowSl, sliceV.strSl, bounds, cutP, builtinV, lenV, maxL, maxV, St.elems, roomy, rowOf, rowS, isStr, esz, tdOf, convV, buildV, fillV, partsV, okParts, fillL, D.whole, D.demoteC, D.demote, demoteL, D.global, D.flat, D.leaf, D.cells, TI.agg, TD.rowish, callOpV, moveL, CC, keepB, St.borrowL, St.borrow, D.isLsl, adoptR, adoptC, adoptCL, adoptL, adopt, List.toArray, Array.toList, Nat.reduceEqDiff, Nat.reduceAdd, Nat.reduceSub, Nat.reduceMul, Nat.reduceLeDiff, Nat.reduceLT, reduceIte, reduceCtorEq, forall_const, imp_self, Int.reduceNeg, Int.reduceLT, Int.reduceLE, Int.reduceGT, Int.reduceGE, Int.reduceAdd, Int.reduceSub, Int.reduceMul, Int.reduceToNat, Int.reduceEq, ne_eq, eq_self]
  · have := (h6 hg).1
    have a1 := fun ρ M B => app_own (xs := q) (ys := c.v) (i := 1) (τ := [true, true]) rfl (by omega) ρ M B
    simp only [hg, if_false]
    simp only [fi41, Tryd.f41, an41, c1, c2, w1, hg, a1, T3, T5, T9, T23, T26, T84, EL, e_finWf, e_finWt, e_finMN, e_finMX, retM, meltV, tupV, D.asBox, D.row1, D.freeR, D.freeO, List.replicate_succ, stepD, accs, accP, accW, simpleOp, isAl, isExt, flipD, D.fresh1, D.row, D.plain, D.plain.plainL, St.close, St.close1, St.borrow, retV, resV, resL, outCL, outC, outL, outD, wantedV, opV, An.mid, thawV, St.settle, D.plainU, prune, envOf, get, put, eval, evalT, nz, argsV, capsV, ofV, binV, binV.aggV, unV, intV, eqOp, isConst, natV, optV, loadV, loadC, storeV, setC, St.at_, partV, partTy, indexAddrV, fieldAddrV, sliceV, sliceV.rowSl, sliceV.strSl, bounds, cutP, builtinV, lenV, maxL, maxV, St.elems, roomy, rowOf, rowS, isStr, esz, tdOf, convV, buildV, fillV, partsV, okParts, fillL, D.whole, D.demoteC, D.demote, demoteL, D.global, D.flat, D.leaf, D.cells, TI.agg, TD.rowish, callOpV, moveL, CC, keepB, St.borrowL, St.borrow, D.isLsl, adoptR, adoptC, adoptCL, adoptL, adopt, List.toArray, Array.toList, Nat.reduceEqDiff, Nat.reduceAdd, Nat.reduceSub, Nat.reduceMul, Nat.reduceLeDiff, Nat.reduceLT, reduceIte, reduceCtorEq, forall_const, imp_self, Int.reduceNeg, Int.reduceLT, Int.reduceLE, Int.reduceGT, Int.reduceGE, Int.reduceAdd, Int.reduceSub, Int.reduceMul, Int.reduceToNat, Int.reduceEq, ne_eq, eq_self]
theorem c41 (hC : Lib08A C) (c : Ce) (ho : okC c = true) (B : Hp) : C 41 [.agg [.str c.k, .str c.v, .int .i64 c.g, .int .i64 c.p]] B = some (.vec 1 ((oneC c).map byteD) .fresh, B) := hC.f41 _ _ _ (run41 hC c ho B)

/-! ### Cells told -/
abbrev ceR (l : List Ce) (p : Perm) : D := .vec 4 (l.map ceD) p
theorem ce_get {l : List Ce} {i : Nat} (h : i < l.length) : (l.map ceD)[i]? = some (.agg [.str (l.getD i default).k, .str (l.getD i default).v, .int .i64 (l.getD i default).g, .int .i64 (l.getD i default).p]) := by
  rw [List.getElem?_map, List.getD_eq_getElem?_getD, List.getElem?_eq_getElem h]; rfl
theorem ce_take {l : List Ce} {k : Nat} (h : k < l.length) : (l.take k).map ceD ++ [.agg [.str (l.getD k default).k, .str (l.getD k default).v, .int .i64 (l.getD k default).g, .int .i64 (l.getD k default).p]] = (l.take (k + 1)).map ceD := by
  rw [List.take_add_one, List.getElem?_eq_getElem h, List.getD_eq_getElem?_getD, List.getElem?_eq_getElem h, List.map_append]
  rfl
theorem roomy48 {n : Nat} (h : n * 48 ≤ 140737488355328) : roomy n 48 = true := by
  simp only [roomy, nble, decide_eq_true_eq]; omega

def st12 (B : Hp) (l : List Ce) (k : Nat) : St := ⟨[(0, ceR l .none), (3, .vec 4 ((l.take k).map ceD) (bif Nat.beq k 0 then .exact else .own 0)), (4, .int .i64 (k : Nat))], [], bif Nat.beq k 0 then [] else [true], B⟩
set_option maxRecDepth 20000 in
set_option maxHeartbeats 1000000 in
theorem loop12 (C : Callees) (B : Hp) (l : List Ce) (hl : l.length * 48 ≤ 140737488351232) (st : St) (hst : an12.at_ (some 3) st = st12 B l 0) :
    ∃ x st', loopC T an12 C lp12_0 st = some (x, st') ∧ x = .exit 0 ∧ ∃ ρ, st' = ⟨ρ, [], bif Nat.beq l.length 0 then [] else [true], B⟩ ∧ get ρ 3 = .vec 4 (l.map ceD) (bif Nat.beq l.length 0 then .exact else .own 0) := by
  refine loop_rule (st12 B l) (fun k => k ≤ l.length) (fun k => l.length - k) _ ?_ 0 st hst (Nat.zero_le _)
  intro k hk
  rcases Nat.lt_or_ge k l.length with h | h
  · left
    refine ⟨k + 1, ?_, by omega, by omega⟩
    have g0 : (k : Int) < l.length := by omega
    have g1 := pnat k
    have w1 : IntKind.i64.wrap ((k : Int) + 1) = ((k + 1 : Nat) : Int) := by rw [wrapI (by omega) (by omega)]; rfl
    have e1 := ce_get h
    have e2 := ce_take h
    have hlt : (l.take k).length = k := by rw [List.length_take]; omega
    have r1 := roomy48 (n := k + 1) (by omega)
    have k1 : Nat.beq (k + 1) 0 = false := rfl
    generalize l.getD k default = c at e1 e2
    cases k with
    | zero =>
      have k0 : Nat.beq 0 0 = true := rfl
      rw [List.take_zero] at e2
      simp only [List.map_nil, List.nil_append] at e2
      simp only [st12, k0, k1, cond_true, cond_false, List.take_zero, List.map_nil]
      have h1t : (l.take 1).length = 1 := by rw [List.length_take]; omega
      have r1' : roomy 1 48 = true := by decide
      simp only [st12, lp12_0, subC, atC, Tryd.f12, an12, g0, g1, w1, e1, e2, r1, r1', h1t, Int.toNat_natCast, T3, T9, T22, T26, T31, T45, EL, e_finWf, e_finWt, e_finMN, e_finMX, retM, meltV, tupV, D.asBox, D.row1, D.freeR, D.freeO, List.replicate_succ, stepD, accs, accP, accW, simpleOp, isAl, isExt, flipD, D.fresh1, D.row, D.plain, D.plain.plainL, St.close, St.close1, St.borrow, retV, resV, resL, outCL, outC, outL, outD, wantedV, opV, An.mid, thawV, St.settle, D.plainU, prune, envOf, get, put, eval, evalT, nz, argsV, capsV, ofV, binV, binV.aggV, unV, intV, eqOp, isConst, natV, optV, loadV, loadC, storeV, setC, St.at_, partV, partTy, indexAddrV, fieldAddrV, sliceV, sliceV.rowSl, sliceV.strSl, bounds, cutP, builtinV, lenV, maxL, maxV, appendV, St.elems, rowOf, rowS, isStr, esz, tdOf, convV, buildV, fillV, partsV, okParts, fillL, D.whole, D.demoteC, D.demote, demoteL, D.global, D.flat, D.leaf, D.cells, TI.agg, TD.rowish, callOpV, moveL, CC, keepB, St.borrowL, St.borrow, D.isLsl, adoptR, adoptC, adoptCL, adoptL, adopt, List.toArray, Array.toList, Nat.reduceEqDiff, Nat.reduceAdd, Nat.reduceSub, Nat.reduceMul, Nat.reduceLeDiff, Nat.reduceLT, reduceIte, reduceCtorEq, forall_const, imp_self, Int.reduceNeg, Int.reduceLT, Int.reduceLE, Int.reduceGT, Int.reduceGE, Int.reduceAdd, Int.reduceSub, Int.reduceMul, Int.reduceToNat, Int.reduceEq, ne_eq, eq_self]
      exact ⟨_, rfl, rfl⟩
    | succ k =>
      have k0 : Nat.beq (k + 1) 0 = false := rfl
      simp only [st12, k0, k1, cond_true, cond_false]
      simp only [st12, lp12_0, subC, atC, Tryd.f12, an12, g0, g1, w1, e1, e2, r1, hlt, Int.toNat_natCast, T3, T9, T22, T26, T31, T45, EL, e_finWf, e_finWt, e_finMN, e_finMX, retM, meltV, tupV, D.asBox, D.row1, D.freeR, D.freeO, List.replicate_succ, stepD, accs, accP, accW, simpleOp, isAl, isExt, flipD, D.fresh1, D.row, D.plain, D.plain.plainL, St.close, St.close1, St.borrow, retV, resV, resL, outCL, outC, outL, outD, wantedV, opV, An.mid, thawV, St.settle, D.plainU, prune, envOf, get, put, eval, evalT, nz, argsV, capsV, ofV, binV, binV.aggV, unV, intV, eqOp, isConst, natV, optV, loadV, loadC, storeV, setC, St.at_, partV, partTy, indexAddrV, fieldAddrV, sliceV, sliceV.rowSl, sliceV.strSl, bounds, cutP, builtinV, lenV, maxL, maxV, appendV, St.elems, rowOf, rowS, isStr, esz, tdOf, convV, buildV, fillV, partsV, okParts, fillL, D.whole, D.demoteC, D.demote, demoteL, D.global, D.flat, D.leaf, D.cells, TI.agg, TD.rowish, callOpV, moveL, CC, keepB, St.borrowL, St.borrow, D.isLsl, adoptR, adoptC, adoptCL, adoptL, adopt, List.toArray, Array.toList, Nat.reduceEqDiff, Nat.reduceAdd, Nat.reduceSub, Nat.reduceMul, Nat.reduceLeDiff, Nat.reduceLT, reduceIte, reduceCtorEq, forall_const, imp_self, Int.reduceNeg, Int.reduceLT, Int.reduceLE, Int.reduceGT, Int.reduceGE, Int.reduceAdd, Int.reduceSub, Int.reduceMul, Int.reduceToNat, Int.reduceEq, ne_eq, eq_self]
      exact ⟨_, rfl, rfl⟩
  · right
    obtain rfl : k = l.length := by omega
    have g0 : ¬ ((l.length : Nat) : Int) < l.length := by omega
    have e1 : l.take l.length = l := List.take_length
    simp only [st12, lp12_0, subC, atC, Tryd.f12, an12, g0, e1, T3, T9, T22, T26, T31, T45, EL, e_finWf, e_finWt, e_finMN, e_finMX, retM, meltV, tupV, D.asBox, D.row1, D.freeR, D.freeO, List.replicate_succ, stepD, accs, accP, accW, simpleOp, isAl, isExt, flipD, D.fresh1, D.row, D.plain, D.plain.plainL, St.close, St.close1, St.borrow, retV, resV, resL, outCL, outC, outL, outD, wantedV, opV, An.mid, thawV, St.settle, D.plainU, prune, envOf, get, put, eval, evalT, nz, argsV, capsV, ofV, binV, binV.aggV, unV, intV, eqOp, isConst, natV, optV, loadV, loadC, storeV, setC, St.at_, partV, partTy, indexAddrV, fieldAddrV, sliceV, sliceV.rowSl, sliceV.strSl, bounds, cutP, builtinV, lenV, maxL, maxV, appendV, St.elems, roomy, rowOf, rowS, isStr, esz, tdOf, convV, buildV, fillV, partsV, okParts, fillL, D.whole, D.demoteC, D.demote, demoteL, D.global, D.flat, D.leaf, D.cells, TI.agg, TD.rowish, callOpV, moveL, CC, keepB, St.borrowL, St.borrow, D.isLsl, adoptR, adoptC, adoptCL, adoptL, adopt, List.toArray, Array.toList, Nat.reduceEqDiff, Nat.reduceAdd, Nat.reduceSub, Nat.reduceMul, Nat.reduceLeDiff, Nat.reduceLT, reduceIte, reduceCtorEq, forall_const, imp_self, Int.reduceNeg, Int.reduceLT, Int.reduceLE, Int.reduceGT, Int.reduceGE, Int.reduceAdd, Int.reduceSub, Int.reduceMul, Int.reduceToNat, Int.reduceEq, ne_eq, eq_self]
    exact ⟨_, _, rfl, by simp, rfl, _, rfl, rfl⟩
set_option maxRecDepth 20000 in
theorem run12 (C : Callees) (l : List Ce) (hl : l.length * 48 ≤ 140737488351232) (B : Hp) : runV T C fi12 [ceR l .none] B = some (ceR l .fresh, B) := by
  rw [e_run _ _ _ rfl]
  have lp := loop12 C B l hl
  simp only [fi12, Tryd.f12, an12, T3, T9, T22, T26, T31, T45, EL, e_finWf, e_finWt, e_finMN, e_finMX, retM, meltV, tupV, D.asBox, D.row1, D.freeR, D.freeO, List.replicate_succ, stepD, accs, accP, accW, simpleOp, isAl, isExt, flipD, D.fresh1, D.row, D.plain, D.plain.plainL, St.close, St.close1, St.borrow, retV, resV, resL, outCL, outC, outL, outD, wantedV, opV, An.mid, thawV, St.settle, D.plainU, prune, envOf, get, put, eval, evalT, nz, argsV, capsV, ofV, binV, binV.aggV, unV, intV, eqOp, isConst, natV, optV, loadV, loadC, storeV, setC, St.at_, partV, partTy, indexAddrV, fieldAddrV, sliceV, sliceV.rowSl, sliceV.strSl, bounds, cutP, builtinV, lenV, maxL, maxV, appendV, St.elems, roomy, rowOf, rowS, isStr, esz, tdOf, convV, buildV, fillV, partsV, okParts, fillL, D.whole, D.demoteC, D.demote, demoteL, D.global, D.flat, D.leaf, D.cells, TI.agg, TD.rowish, callOpV, moveL, CC, keepB, St.borrowL, St.borrow, D.isLsl, adoptR, adoptC, adoptCL, adoptL, adopt, List.toArray, Array.toList, Nat.reduceEqDiff, Nat.reduceAdd, Nat.reduceSub, Nat.reduceMul, Nat.reduceLeDiff, Nat.reduceLT, reduceIte, reduceCtorEq, forall_const, imp_self, Int.reduceNeg, Int.reduceLT, Int.reduceLE, Int.reduceGT, Int.reduceGE, Int.reduceAdd, Int.reduceSub, Int.reduceMul, Int.reduceToNat, Int.reduceEq, ne_eq, eq_self]
  refine' in_loop (c' := lp12_0) (fin T _ _ _) ?h rfl ?q
  case h =>
    refine lp _ ?_
    simp only [an12, ren_map, toks_map, boxes_map, st12, pz0, An.at_, tidyV, tidyW, tidyB, tidyT, sift, envBoxes, envToks, conToks, D.toks, D.tok1, toksL, D.boxes, D.box1, boxesL, memN, posN, renE, D.ren, D.ren1, renL, renB, St.content, St.boxOk, St.tokOk, trues, T3, T9, T22, T26, T31, T45, EL, e_finWf, e_finWt, e_finMN, e_finMX, retM, meltV, tupV, D.asBox, D.row1, D.freeR, D.freeO, List.replicate_succ, stepD, accs, accP, accW, simpleOp, isAl, isExt, flipD, D.fresh1, D.row, D.plain, D.plain.plainL, St.close, St.close1, St.borrow, retV, resV, resL, outCL, outC, outL, outD, wantedV, opV, An.mid, thawV, St.settle, D.plainU, prune, envOf, get, put, eval, evalT, nz, argsV, capsV, ofV, binV, binV.aggV, unV, intV, eqOp, isConst, natV, optV, loadV, loadC, storeV, setC, St.at_, partV, partTy, indexAddrV, fieldAddrV, sliceV, sliceV.rowSl, sliceV.strSl, bounds, cutP, builtinV, lenV, maxL, maxV, appendV, St.elems, roomy, rowOf, rowS, isStr, esz, tdOf, convV, buildV, fillV, partsV, okParts, fillL, D.whole, D.demoteC, D.demote, demoteL, D.global, D.flat, D.leaf, D.cells, TI.agg, TD.rowish, callOpV, moveL, CC, keepB, St.borrowL, St.borrow, D.isLsl, adoptR, adoptC, adoptCL, adoptL, adopt, List.toArray, Array.toList, Nat.reduceEqDiff, Nat.reduceAdd, Nat.reduceSub, Nat.reduceMul, Nat.reduceLeDiff, Nat.reduceLT, reduceIte, reduceCtorEq, forall_const, imp_self, Int.reduceNeg, Int.reduceLT, Int.reduceLE, Int.reduceGT, Int.reduceGE, Int.reduceAdd, Int.reduceSub, Int.reduceMul, Int.reduceToNat, Int.reduceEq, ne_eq, eq_self]
    all_goals rfl
  rintro x st' ⟨rfl, ρ, rfl, r3⟩
  cases hb : Nat.beq l.length 0 with
  | true =>
    obtain rfl : l = [] := List.length_eq_zero_iff.1 (Nat.eq_of_beq_eq_true hb)
    rw [hb] at r3
    simp only [r3, hb, T3, T9, T22, T26, T31, T45, EL, e_finWf, e_finWt, e_finMN, e_finMX, retM, meltV, tupV, D.asBox, D.row1, D.freeR, D.freeO, List.replicate_succ, stepD, accs, accP, accW, simpleOp, isAl, isExt, flipD, D.fresh1, D.row, D.plain, D.plain.plainL, St.close, St.close1, St.borrow, retV, resV, resL, outCL, outC, outL, outD, wantedV, opV, An.mid, thawV, St.settle, D.plainU, prune, envOf, get, put, eval, evalT, nz, argsV, capsV, ofV, binV, binV.aggV, unV, intV, eqOp, isConst, natV, optV, loadV, loadC, storeV, setC, St.at_, partV, partTy, indexAddrV, fieldAddrV, sliceV, sliceV.rowSl, sliceV.strSl, bounds, cutP, builtinV, lenV, maxL, maxV, appendV, St.elems, roomy, rowOf, rowS, isStr, esz, tdOf, convV, buildV, fillV, partsV, okParts, fillL, D.whole, D.demoteC, D.demote, demoteL, D.global, D.flat, D.leaf, D.cells, TI.agg, TD.rowish, callOpV, moveL, CC, keepB, St.borrowL, St.borrow, D.isLsl, adoptR, adoptC, adoptCL, adoptL, adopt, List.toArray, Array.toList, Nat.reduceEqDiff, Nat.reduceAdd, Nat.reduceSub, Nat.reduceMul, Nat.reduceLeDiff, Nat.reduceLT, reduceIte, reduceCtorEq, forall_const, imp_self, Int.reduceNeg, Int.reduceLT, Int.reduceLE, Int.reduceGT, Int.reduceGE, Int.reduceAdd, Int.reduceSub, Int.reduceMul, Int.reduceToNat, Int.reduceEq, ne_eq, eq_self]
    all_goals rfl
  | false =>
    rw [hb] at r3
    simp only [r3, hb, T3, T9, T22, T26, T31, T45, EL, e_finWf, e_finWt, e_finMN, e_finMX, retM, meltV, tupV, D.asBox, D.row1, D.freeR, D.freeO, List.replicate_succ, stepD, accs, accP, accW, simpleOp, isAl, isExt, flipD, D.fresh1, D.row, D.plain, D.plain.plainL, St.close, St.close1, St.borrow, retV, resV, resL, outCL, outC, outL, outD, wantedV, opV, An.mid, thawV, St.settle, D.plainU, prune, envOf, get, put, eval, evalT, nz, argsV, capsV, ofV, binV, binV.aggV, unV, intV, eqOp, isConst, natV, optV, loadV, loadC, storeV, setC, St.at_, partV, partTy, indexAddrV, fieldAddrV, sliceV, sliceV.rowSl, sliceV.strSl, bounds, cutP, builtinV, lenV, maxL, maxV, appendV, St.elems, roomy, rowOf, rowS, isStr, esz, tdOf, convV, buildV, fillV, partsV, okParts, fillL, D.whole, D.demoteC, D.demote, demoteL, D.global, D.flat, D.leaf, D.cells, TI.agg, TD.rowish, callOpV, moveL, CC, keepB, St.borrowL, St.borrow, D.isLsl, adoptR, adoptC, adoptCL, adoptL, adopt, List.toArray, Array.toList, Nat.reduceEqDiff, Nat.reduceAdd, Nat.reduceSub, Nat.reduceMul, Nat.reduceLeDiff, Nat.reduceLT, reduceIte, reduceCtorEq, forall_const, imp_self, Int.reduceNeg, Int.reduceLT, Int.reduceLE, Int.reduceGT, Int.reduceGE, Int.reduceAdd, Int.reduceSub, Int.reduceMul, Int.reduceToNat, Int.reduceEq, ne_eq, eq_self]
    all_goals rfl
theorem c12 (hC : Lib08A C) (l : List Ce) (hl : l.length * 48 ≤ 140737488351232) (B : Hp) : C 12 [.vec 4 (l.map ceD) .none] B = some (.vec 4 (l.map ceD) .fresh, B) := hC.f12 _ _ _ (run12 C l hl B)

/-! ### Cells compared -/
theorem eqT_ce (c : Ce) : eqT T 6 45 [.str c.k, .str c.v, .int .i64 c.g, .int .i64 c.p] [.str c.k, .str c.v, .int .i64 c.g, .int .i64 c.p] = some true := by
  simp only [eqT, eqFields, T45, T9, T3, cond_true, List.drop_zero, List.drop_succ_cons, List.take_succ_cons, List.take_zero, if_true, beq_self_eq_true, Bool.and_self]

def st17 (B : Hp) (l : List Ce) (k : Nat) : St := ⟨[(0, ceR l .none), (1, ceR l .none), (5, .int .i64 (k : Nat))], [], [], B⟩
set_option maxRecDepth 20000 in
theorem loop17 (C : Callees) (B : Hp) (l : List Ce) (hl : l.length ≤ 1000000) (st : St) (hst : an17.at_ (some 4) st = st17 B l 0) :
    ∃ x st', loopC T an17 C lp17_0 st = some (x, st') ∧ x = .exit 0 ∧ ∃ ρ, st' = ⟨ρ, [], [], B⟩ := by
  refine loop_rule (st17 B l) (fun k => k ≤ l.length) (fun k => l.length - k) _ ?_ 0 st hst (Nat.zero_le _)
  intro k hk
  rcases Nat.lt_or_ge k l.length with h | h
  · left
    refine ⟨k + 1, ?_, by omega, by omega⟩
    have g0 : (k : Int) < l.length := by omega
    have g1 := pnat k
    have w1 : IntKind.i64.wrap ((k : Int) + 1) = ((k + 1 : Nat) : Int) := by rw [wrapI (by omega) (by omega)]; rfl
    have e1 := ce_get h
    have s1 := eqT_ce (l.getD k default)
    simp only [st17, lp17_0, subC, atC, Tryd.f17, an17, g0, g1, w1, e1, s1, Int.toNat_natCast, T3, T9, T22, T26, T31, T45, EL, e_finWf, e_finWt, e_finMN, e_finMX, retM, meltV, tupV, D.asBox, D.row1, D.freeR, D.freeO, List.replicate_succ, stepD, accs, accP, accW, simpleOp, isAl, isExt, flipD, D.fresh1, D.row, D.plain, D.plain.plainL, St.close, St.close1, St.borrow, retV, resV, resL, outCL, outC, outL, outD, wantedV, opV, An.mid, thawV, St.settle, D.plainU, prune, envOf, get, put, eval, evalT, nz, argsV, capsV, ofV, binV, binV.aggV, unV, intV, eqOp, isConst, natV, optV, loadV, loadC, storeV, setC, St.at_, partV, partTy, indexAddrV, fieldAddrV, sliceV, sliceV.rowSl, sliceV.strSl, bounds, cutP, builtinV, lenV, maxL, maxV, appendV, St.elems, roomy, rowOf, rowS, isStr, esz, tdOf, convV, buildV, fillV, partsV, okParts, fillL, D.whole, D.demoteC, D.demote, demoteL, D.global, D.flat, D.leaf, D.cells, TI.agg, TD.rowish, callOpV, moveL, CC, keepB, St.borrowL, St.borrow, D.isLsl, adoptR, adoptC, adoptCL, adoptL, adopt, List.toArray, Array.toList, Nat.reduceEqDiff, Nat.reduceAdd, Nat.reduceSub, Nat.reduceMul, Nat.reduceLeDiff, Nat.reduceLT, reduceIte, reduceCtorEq, forall_const, imp_self, Int.reduceNeg, Int.reduceLT, Int.reduceLE, Int.reduceGT, Int.reduceGE, Int.reduceAdd, Int.reduceSub, Int.reduceMul, Int.reduceToNat, Int.reduceEq, ne_eq, eq_self]
    exact ⟨_, rfl, rfl⟩
  · right
    obtain rfl : k = l.length := by omega
    have g0 : ¬ ((l.length : Nat) : Int) < l.length := by omega
    simp only [st17, lp17_0, subC, atC, Tryd.f17, an17, g0, T3, T9, T22, T26, T31, T45, EL, e_finWf, e_finWt, e_finMN, e_finMX, retM, meltV, tupV, D.asBox, D.row1, D.freeR, D.freeO, List.replicate_succ, stepD, accs, accP, accW, simpleOp, isAl, isExt, flipD, D.fresh1, D.row, D.plain, D.plain.plainL, St.close, St.close1, St.borrow, retV, resV, resL, outCL, outC, outL, outD, wantedV, opV, An.mid, thawV, St.settle, D.plainU, prune, envOf, get, put, eval, evalT, nz, argsV, capsV, ofV, binV, binV.aggV, unV, intV, eqOp, isConst, natV, optV, loadV, loadC, storeV, setC, St.at_, partV, partTy, indexAddrV, fieldAddrV, sliceV, sliceV.rowSl, sliceV.strSl, bounds, cutP, builtinV, lenV, maxL, maxV, appendV, St.elems, roomy, rowOf, rowS, isStr, esz, tdOf, convV, buildV, fillV, partsV, okParts, fillL, D.whole, D.demoteC, D.demote, demoteL, D.global, D.flat, D.leaf, D.cells, TI.agg, TD.rowish, callOpV, moveL, CC, keepB, St.borrowL, St.borrow, D.isLsl, adoptR, adoptC, adoptCL, adoptL, adopt, List.toArray, Array.toList, Nat.reduceEqDiff, Nat.reduceAdd, Nat.reduceSub, Nat.reduceMul, Nat.reduceLeDiff, Nat.reduceLT, reduceIte, reduceCtorEq, forall_const, imp_self, Int.reduceNeg, Int.reduceLT, Int.reduceLE, Int.reduceGT, Int.reduceGE, Int.reduceAdd, Int.reduceSub, Int.reduceMul, Int.reduceToNat, Int.reduceEq, ne_eq, eq_self]
    exact ⟨_, _, rfl, by simp, rfl, _, rfl⟩
set_option maxRecDepth 20000 in
theorem run17 (C : Callees) (l : List Ce) (hl : l.length ≤ 1000000) (B : Hp) : runV T C fi17 [ceR l .none, ceR l .none] B = some (.bool true, B) := by
  rw [e_run _ _ _ rfl]
  have lp := loop17 C B l hl
  simp only [fi17, Tryd.f17, an17, T3, T9, T22, T26, T31, T45, EL, e_finWf, e_finWt, e_finMN, e_finMX, retM, meltV, tupV, D.asBox, D.row1, D.freeR, D.freeO, List.replicate_succ, stepD, accs, accP, accW, simpleOp, isAl, isExt, flipD, D.fresh1, D.row, D.plain, D.plain.plainL, St.close, St.close1, St.borrow, retV, resV, resL, outCL, outC, outL, outD, wantedV, opV, An.mid, thawV, St.settle, D.plainU, prune, envOf, get, put, eval, evalT, nz, argsV, capsV, ofV, binV, binV.aggV, unV, intV, eqOp, isConst, natV, optV, loadV, loadC, storeV, setC, St.at_, partV, partTy, indexAddrV, fieldAddrV, sliceV, sliceV.rowSl, sliceV.strSl, bounds, cutP, builtinV, lenV, maxL, maxV, appendV, St.elems, roomy, rowOf, rowS, isStr, esz, tdOf, convV, buildV, fillV, partsV, okParts, fillL, D.whole, D.demoteC, D.demote, demoteL, D.global, D.flat, D.leaf, D.cells, TI.agg, TD.rowish, callOpV, moveL, CC, keepB, St.borrowL, St.borrow, D.isLsl, adoptR, adoptC, adoptCL, adoptL, adopt, List.toArray, Array.toList, Nat.reduceEqDiff, Nat.reduceAdd, Nat.reduceSub, Nat.reduceMul, Nat.reduceLeDiff, Nat.reduceLT, reduceIte, reduceCtorEq, forall_const, imp_self, Int.reduceNeg, Int.reduceLT, Int.reduceLE, Int.reduceGT, Int.reduceGE, Int.reduceAdd, Int.reduceSub, Int.reduceMul, Int.reduceToNat, Int.reduceEq, ne_eq, eq_self]
  refine' in_loop (c' := lp17_0) (fin T _ _ _) ?h rfl ?q
  case h =>
    refine lp _ ?_
    simp only [an17, ren_map, toks_map, boxes_map, st17, pz0, An.at_, tidyV, tidyW, tidyB, tidyT, sift, envBoxes, envToks, conToks, D.toks, D.tok1, toksL, D.boxes, D.box1, boxesL, memN, posN, renE, D.ren, D.ren1, renL, renB, St.content, St.boxOk, St.tokOk, trues, T3, T9, T22, T26, T31, T45, EL, e_finWf, e_finWt, e_finMN, e_finMX, retM, meltV, tupV, D.asBox, D.row1, D.freeR, D.freeO, List.replicate_succ, stepD, accs, accP, accW, simpleOp, isAl, isExt, flipD, D.fresh1, D.row, D.plain, D.plain.plainL, St.close, St.close1, St.borrow, retV, resV, resL, outCL, outC, outL, outD, wantedV, opV, An.mid, thawV, St.settle, D.plainU, prune, envOf, get, put, eval, evalT, nz, argsV, capsV, ofV, binV, binV.aggV, unV, intV, eqOp, isConst, natV, optV, loadV, loadC, storeV, setC, St.at_, partV, partTy, indexAddrV, fieldAddrV, sliceV, sliceV.rowSl, sliceV.strSl, bounds, cutP, builtinV, lenV, maxL, maxV, appendV, St.elems, roomy, rowOf, rowS, isStr, esz, tdOf, convV, buildV, fillV, partsV, okParts, fillL, D.whole, D.demoteC, D.demote, demoteL, D.global, D.flat, D.leaf, D.cells, TI.agg, TD.rowish, callOpV, moveL, CC, keepB, St.borrowL, St.borrow, D.isLsl, adoptR, adoptC, adoptCL, adoptL, adopt, List.toArray, Array.toList, Nat.reduceEqDiff, Nat.reduceAdd, Nat.reduceSub, Nat.reduceMul, Nat.reduceLeDiff, Nat.reduceLT, reduceIte, reduceCtorEq, forall_const, imp_self, Int.reduceNeg, Int.reduceLT, Int.reduceLE, Int.reduceGT, Int.reduceGE, Int.reduceAdd, Int.reduceSub, Int.reduceMul, Int.reduceToNat, Int.reduceEq, ne_eq, eq_self]
    all_goals rfl
  rintro x st' ⟨rfl, ρ, rfl⟩
  simp only [T3, T9, T22, T26, T31, T45, EL, e_finWf, e_finWt, e_finMN, e_finMX, retM, meltV, tupV, D.asBox, D.row1, D.freeR, D.freeO, List.replicate_succ, stepD, accs, accP, accW, simpleOp, isAl, isExt, flipD, D.fresh1, D.row, D.plain, D.plain.plainL, St.close, St.close1, St.borrow, retV, resV, resL, outCL, outC, outL, outD, wantedV, opV, An.mid, thawV, St.settle, D.plainU, prune, envOf, get, put, eval, evalT, nz, argsV, capsV, ofV, binV, binV.aggV, unV, intV, eqOp, isConst, natV, optV, loadV, loadC, storeV, setC, St.at_, partV, partTy, indexAddrV, fieldAddrV, sliceV, sliceV.rowSl, sliceV.strSl, bounds, cutP, builtinV, lenV, maxL, maxV, appendV, St.elems, roomy, rowOf, rowS, isStr, esz, tdOf, convV, buildV, fillV, partsV, okParts, fillL, D.whole, D.demoteC, D.demote, demoteL, D.global, D.flat, D.leaf, D.cells, TI.agg, TD.rowish, callOpV, moveL, CC, keepB, St.borrowL, St.borrow, D.isLsl, adoptR, adoptC, adoptCL, adoptL, adopt, List.toArray, Array.toList, Nat.reduceEqDiff, Nat.reduceAdd, Nat.reduceSub, Nat.reduceMul, Nat.reduceLeDiff, Nat.reduceLT, reduceIte, reduceCtorEq, forall_const, imp_self, Int.reduceNeg, Int.reduceLT, Int.reduceLE, Int.reduceGT, Int.reduceGE, Int.reduceAdd, Int.reduceSub, Int.reduceMul, Int.reduceToNat, Int.reduceEq, ne_eq, eq_self]
theorem c17 (hC : Lib08A C) (l : List Ce) (hl : l.length ≤ 1000000) (B : Hp) : C 17 [.vec 4 (l.map ceD) .none, .vec 4 (l.map ceD) .none] B = some (.bool true, B) := hC.f17 _ _ _ (run17 C l hl B)

/-! ### A key found -/
abbrev kyS (l : List Ce) : List Ky := l.map Ce.k
theorem ky_get {l : List Ce} {i : Nat} (h : i < l.length) : (l.getD i default).k = (kyS l).getD i [] := by
  rw [List.getD_eq_getElem?_getD, List.getD_eq_getElem?_getD, List.getElem?_map, List.getElem?_eq_getElem h]; rfl

set_option maxRecDepth 10000 in
theorem run54 (hC : Lib08B C) (c : Ce) (key : Ky) (B : Hp) : runV T C fi54 [ceD c, .str key] B = some (.int .i64 (cmpS c.k key), B) := by
  rw [e_run _ _ _ rfl]
  rw [ceD_eq]
  have c1 := c55 hC.toLib09A c.k key
  simp only [fi54, Tryd.f54, an54, c1, T3, T9, T45, EL, e_finWf, e_finWt, e_finMN, e_finMX, retM, meltV, tupV, D.asBox, D.row1, D.freeR, D.freeO, List.replicate_succ, stepD, accs, accP, accW, simpleOp, isAl, isExt, flipD, D.fresh1, D.row, D.plain, D.plain.plainL, St.close, St.close1, St.borrow, retV, resV, resL, outCL, outC, outL, outD, wantedV, opV, An.mid, thawV, St.settle, D.plainU, prune, envOf, get, put, eval, evalT, nz, argsV, capsV, ofV, binV, binV.aggV, unV, intV, eqOp, isConst, natV, optV, loadV, loadC, storeV, setC, St.at_, partV, partTy, indexAddrV, fieldAddrV, sliceV, sliceV.rowSl, sliceV.strSl, bounds, cutP, builtinV, lenV, maxL, maxV, appendV, St.elems, roomy, rowOf, rowS, isStr, esz, tdOf, convV, buildV, fillV, partsV, okParts, fillL, D.whole, D.demoteC, D.demote, demoteL, D.global, D.flat, D.leaf, D.cells, TI.agg, TD.rowish, callOpV, moveL, CC, keepB, St.borrowL, St.borrow, D.isLsl, adoptR, adoptC, adoptCL, adoptL, adopt, List.toArray, Array.toList, Nat.reduceEqDiff, Nat.reduceAdd, Nat.reduceSub, Nat.reduceMul, Nat.reduceLeDiff, Nat.reduceLT, reduceIte, reduceCtorEq, forall_const, imp_self, Int.reduceNeg, Int.reduceLT, Int.reduceLE, Int.reduceGT, Int.reduceGE, Int.reduceAdd, Int.reduceSub, Int.reduceMul, Int.reduceToNat, Int.reduceEq, ne_eq, eq_self]
theorem c54 (hC : Lib08B C) (c : Ce) (key : Ky) (B : Hp) : C 54 [.agg [.str c.k, .str c.v, .int .i64 c.g, .int .i64 c.p], .str key] B = some (.int .i64 (cmpS c.k key), B) := hC.f54 _ _ _ (run54 hC c key B)

def st53 (B : Hp) (l : List Ce) (key : Ky) (x : Nat × Nat) : St := ⟨[(0, ceR l .none), (1, .str key), (2, .fn 54 []), (8, .int .i64 l.length), (9, .int .i64 (x.1 : Nat)), (10, .int .i64 (x.2 : Nat))], [], [], B⟩

set_option maxRecDepth 10000 in
set_option maxHeartbeats 1000000 in
theorem loop53 (hC : Lib08B C) (B : Hp) (l : List Ce) (key : Ky) (hl : l.length ≤ 100000) (hs : sortK (kyS l)) (st : St) (hst : an53.at_ (some 3) st = st53 B l key (0, l.length)) :
    ∃ x st', loopC T an53 C lp53_0 st = some (x, st') ∧ x = .exit 0 ∧ ∃ ρ i, st' = ⟨ρ, [], [], B⟩ ∧ i ≤ l.length ∧ (∀ a, a < i → lt ((kyS l).getD a []) key = true) ∧ (∀ a, i ≤ a → a < l.length → lt ((kyS l).getD a []) key = false) ∧ get ρ 0 = ceR l .none ∧ get ρ 1 = .str key ∧ get ρ 2 = .fn 54 [] ∧ get ρ 8 = .int .i64 l.length ∧ get ρ 9 = .int .i64 (i : Nat) := by
  have hkl : (kyS l).length = l.length := by simp
  refine loop_rule (st53 B l key) (fun x => x.1 ≤ x.2 ∧ x.2 ≤ l.length ∧ (∀ a, a < x.1 → lt ((kyS l).getD a []) key = true) ∧ (∀ a, x.2 ≤ a → a < l.length → lt ((kyS l).getD a []) key = false)) (fun x => x.2 - x.1) _ ?_ (0, l.length) st hst ⟨Nat.zero_le _, Nat.le_refl _, fun a h => by simp at h, fun a h1 h2 => by simp at h1; omega⟩
  rintro ⟨i, j⟩ ⟨h1, h2, h3, h4⟩
  simp only at h1 h2 h3 h4
  rcases Nat.lt_or_ge i j with h | h
  · left
    have g0 : (i : Int) < j := by omega
    have w1 : IntKind.i64.wrap ((i : Int) + (j : Int)) = ((i + j : Nat) : Int) := by rw [wrapI (by omega) (by omega)]; omega
    have w0 : IntKind.u64.wrap ((i + j : Nat) : Int) = ((i + j : Nat) : Int) := wrap_u64 (by omega) (by omega)
    have w2 := shr_half (i + j) (by omega)
    rw [w0] at w2
    have w3 : IntKind.i64.wrap ((((i + j) / 2 : Nat) : Int) + 1) = (((i + j) / 2 + 1 : Nat) : Int) := by rw [wrapI (by omega) (by omega)]; rfl
    have hm : (i + j) / 2 < j := by omega
    have hm2 : i ≤ (i + j) / 2 := by omega
    generalize (i + j) / 2 = m at w2 w3 hm hm2
    have g1 := pnat m
    have e1 := ce_get (l := l) (i := m) (by omega)
    have c1 := c54 hC (l.getD m default) key
    have ek := ky_get (l := l) (i := m) (by omega)
    unfold cmpS at c1
    cases hlt : lt ((kyS l).getD m []) key with
    | true =>
      rw [← ek] at hlt
      rw [hlt, if_pos rfl] at c1
      rw [ek] at hlt
      refine ⟨(m + 1, j), ?_, ⟨by show m + 1 ≤ j; omega, h2, fun a ha => ?_, h4⟩, by show j - (m + 1) < j - i; omega⟩
      · have g2 : (-1 : Int) < 0 := by decide
        simp only [st53, lp53_0, subC, atC, Tryd.f53, an53, g0, g1, g2, w0, w1, w2, w3, e1, c1, Int.toNat_natCast, T3, T9, T31, T45, T132, EL, e_finWf, e_finWt, e_finMN, e_finMX, retM, meltV, tupV, D.asBox, D.row1, D.freeR, D.freeO, List.replicate_succ, stepD, accs, accP, accW, simpleOp, isAl, isExt, flipD, D.fresh1, D.row, D.plain, D.plain.plainL, St.close, St.close1, St.borrow, retV, resV, resL, outCL, outC, outL, outD, wantedV, opV, An.mid, thawV, St.settle, D.plainU, prune, envOf, get, put, eval, evalT, nz, argsV, capsV, ofV, binV, binV.aggV, unV, intV, eqOp, isConst, natV, optV, loadV, loadC, storeV, setC, St.at_, partV, partTy, indexAddrV, fieldAddrV, sliceV, sliceV.rowSl, sliceV.strSl, bounds, cutP, builtinV, lenV, maxL, maxV, appendV, St.elems, roomy, rowOf, rowS, isStr, esz, tdOf, convV, buildV, fillV, partsV, okParts, fillL, D.whole, D.demoteC, D.demote, demoteL, D.global, D.flat, D.leaf, D.cells, TI.agg, TD.rowish, callOpV, moveL, CC, keepB, St.borrowL, St.borrow, D.isLsl, adoptR, adoptC, adoptCL, adoptL, adopt, List.toArray, Array.toList, Nat.reduceEqDiff, Nat.reduceAdd, Nat.reduceSub, Nat.reduceMul, Nat.reduceLeDiff, Nat.reduceLT, reduceIte, reduceCtorEq, forall_const, imp_self, Int.reduceNeg, Int.reduceLT, Int.reduceLE, Int.reduceGT, Int.reduceGE, Int.reduceAdd, Int.reduceSub, Int.reduceMul, Int.reduceToNat, Int.reduceEq, ne_eq, eq_self]
        exact ⟨_, rfl, rfl⟩
      · have ha : a < m + 1 := ha
        rcases Nat.lt_or_ge a m with hh | hh
        · exact lt_trans (hs a m hh (by rw [hkl]; omega)) hlt
        · obtain rfl : a = m := by omega
          exact hlt
    | false =>
      rw [← ek] at hlt
      rw [hlt, if_neg (by decide)] at c1
      rw [ek] at hlt
      refine ⟨(i, m), ?_, ⟨hm2, by show m ≤ _; omega, h3, fun a ha hb => ?_⟩, by show m - i < j - i; omega⟩
      · have g2 : ¬ (if lt key (l.getD m default).k = true then (1 : Int) else 0) < 0 := by split <;> decide
        generalize (if lt key (l.getD m default).k = true then (1 : Int) else 0) = r at c1 g2
        simp only [st53, lp53_0, subC, atC, Tryd.f53, an53, g0, g1, g2, w0, w1, w2, w3, e1, c1, Int.toNat_natCast, T3, T9, T31, T45, T132, EL, e_finWf, e_finWt, e_finMN, e_finMX, retM, meltV, tupV, D.asBox, D.row1, D.freeR, D.freeO, List.replicate_succ, stepD, accs, accP, accW, simpleOp, isAl, isExt, flipD, D.fresh1, D.row, D.plain, D.plain.plainL, St.close, St.close1, St.borrow, retV, resV, resL, outCL, outC, outL, outD, wantedV, opV, An.mid, thawV, St.settle, D.plainU, prune, envOf, get, put, eval, evalT, nz, argsV, capsV, ofV, binV, binV.aggV, unV, intV, eqOp, isConst, natV, optV, loadV, loadC, storeV, setC, St.at_, partV, partTy, indexAddrV, fieldAddrV, sliceV, sliceV.rowSl, sliceV.strSl, bounds, cutP, builtinV, lenV, maxL, maxV, appendV, St.elems, roomy, rowOf, rowS, isStr, esz, tdOf, convV, buildV, fillV, partsV, okParts, fillL, D.whole, D.demoteC, D.demote, demoteL, D.global, D.flat, D.leaf, D.cells, TI.agg, TD.rowish, callOpV, moveL, CC, keepB, St.borrowL, St.borrow, D.isLsl, adoptR, adoptC, adoptCL, adoptL, adopt, List.toArray, Array.toList, Nat.reduceEqDiff, Nat.reduceAdd, Nat.reduceSub, Nat.reduceMul, Nat.reduceLeDiff, Nat.reduceLT, reduceIte, reduceCtorEq, forall_const, imp_self, Int.reduceNeg, Int.reduceLT, Int.reduceLE, Int.reduceGT, Int.reduceGE, Int.reduceAdd, Int.reduceSub, Int.reduceMul, Int.reduceToNat, Int.reduceEq, ne_eq, eq_self]
        exact ⟨_, rfl, rfl⟩
      · have ha : m ≤ a := ha
        rcases Nat.lt_or_ge m a with hh | hh
        · cases hx : lt ((kyS l).getD a []) key with
          | false => rfl
          | true => rw [lt_trans (hs m a hh (by rw [hkl]; exact hb)) hx] at hlt; cases hlt
        · obtain rfl : a = m := by omega
          exact hlt
  · right
    obtain rfl : i = j := by omega
    have g0 : ¬ (i : Int) < i := by omega
    simp only [st53, lp53_0, subC, atC, Tryd.f53, an53, g0, T3, T9, T31, T45, T132, EL, e_finWf, e_finWt, e_finMN, e_finMX, retM, meltV, tupV, D.asBox, D.row1, D.freeR, D.freeO, List.replicate_succ, stepD, accs, accP, accW, simpleOp, isAl, isExt, flipD, D.fresh1, D.row, D.plain, D.plain.plainL, St.close, St.close1, St.borrow, retV, resV, resL, outCL, outC, outL, outD, wantedV, opV, An.mid, thawV, St.settle, D.plainU, prune, envOf, get, put, eval, evalT, nz, argsV, capsV, ofV, binV, binV.aggV, unV, intV, eqOp, isConst, natV, optV, loadV, loadC, storeV, setC, St.at_, partV, partTy, indexAddrV, fieldAddrV, sliceV, sliceV.rowSl, sliceV.strSl, bounds, cutP, builtinV, lenV, maxL, maxV, appendV, St.elems, roomy, rowOf, rowS, isStr, esz, tdOf, convV, buildV, fillV, partsV, okParts, fillL, D.whole, D.demoteC, D.demote, demoteL, D.global, D.flat, D.leaf, D.cells, TI.agg, TD.rowish, callOpV, moveL, CC, keepB, St.borrowL, St.borrow, D.isLsl, adoptR, adoptC, adoptCL, adoptL, adopt, List.toArray, Array.toList, Nat.reduceEqDiff, Nat.reduceAdd, Nat.reduceSub, Nat.reduceMul, Nat.reduceLeDiff, Nat.reduceLT, reduceIte, reduceCtorEq, forall_const, imp_self, Int.reduceNeg, Int.reduceLT, Int.reduceLE, Int.reduceGT, Int.reduceGE, Int.reduceAdd, Int.reduceSub, Int.reduceMul, Int.reduceToNat, Int.reduceEq, ne_eq, eq_self]
    exact ⟨_, _, rfl, by simp, rfl, _, _, rfl, h2, h3, h4, rfl, rfl, rfl, rfl, rfl⟩

set_option maxRecDepth 10000 in
theorem run53 (hC : Lib08B C) (l : List Ce) (key : Ky) (hl : l.length ≤ 100000) (hs : sortK (kyS l)) (B : Hp) : ∃ i, i ≤ l.length ∧ (∀ a, a < i → lt ((kyS l).getD a []) key = true) ∧ (∀ a, i ≤ a → a < l.length → lt ((kyS l).getD a []) key = false) ∧
    runV T C fi53 [ceR l .none, .str key, .fn 54 []] B = some (.tuple [.int .i64 (i : Nat), .bool (decide (i < l.length) && ((kyS l).getD i [] == key))], B) := by
  simp only [e_run _ _ _ (show [ceR l .none, .str key, .fn 54 []].length = fi53.np from rfl)]
  have lp := loop53 hC B l key hl hs
  simp only [fi53, Tryd.f53, an53, T3, T9, T31, T45, T132, EL, e_finWf, e_finWt, e_finMN, e_finMX, retM, meltV, tupV, D.asBox, D.row1, D.freeR, D.freeO, List.replicate_succ, stepD, accs, accP, accW, simpleOp, isAl, isExt, flipD, D.fresh1, D.row, D.plain, D.plain.plainL, St.close, St.close1, St.borrow, retV, resV, resL, outCL, outC, outL, outD, wantedV, opV, An.mid, thawV, St.settle, D.plainU, prune, envOf, get, put, eval, evalT, nz, argsV, capsV, ofV, binV, binV.aggV, unV, intV, eqOp, isConst, natV, optV, loadV, loadC, storeV, setC, St.at_, partV, partTy, indexAddrV, fieldAddrV, sliceV, sliceV.rowSl, sliceV.strSl, bounds, cutP, builtinV, lenV, maxL, maxV, appendV, St.elems, roomy, rowOf, rowS, isStr, esz, tdOf, convV, buildV, fillV, partsV, okParts, fillL, D.whole, D.demoteC, D.demote, demoteL, D.global, D.flat, D.leaf, D.cells, TI.agg, TD.rowish, callOpV, moveL, CC, keepB, St.borrowL, St.borrow, D.isLsl, adoptR, adoptC, adoptCL, adoptL, adopt, List.toArray, Array.toList, Nat.reduceEqDiff, Nat.reduceAdd, Nat.reduceSub, Nat.reduceMul, Nat.reduceLeDiff, Nat.reduceLT, reduceIte, reduceCtorEq, forall_const, imp_self, Int.reduceNeg, Int.reduceLT, Int.reduceLE, Int.reduceGT, Int.reduceGE, Int.reduceAdd, Int.reduceSub, Int.reduceMul, Int.reduceToNat, Int.reduceEq, ne_eq, eq_self]
  refine in_loopP (fun r => ∃ i, i ≤ l.length ∧ (∀ a, a < i → lt ((kyS l).getD a []) key = true) ∧ (∀ a, i ≤ a → a < l.length → lt ((kyS l).getD a []) key = false) ∧ fin T [ResultVar.tmp 6, ResultVar.tmp 7] false B r = some (.tuple [.int .i64 (i : Nat), .bool (decide (i < l.length) && ((kyS l).getD i [] == key))], B)) (c' := lp53_0) (lp _ ?h) rfl ?q
  case h =>
    simp only [an53, ren_map, toks_map, boxes_map, st53, pz0, An.at_, tidyV, tidyW, tidyB, tidyT, sift, envBoxes, envToks, conToks, D.toks, D.tok1, toksL, D.boxes, D.box1, boxesL, memN, posN, renE, D.ren, D.ren1, renL, renB, St.content, St.boxOk, St.tokOk, trues, T3, T9, T31, T45, T132, EL, e_finWf, e_finWt, e_finMN, e_finMX, retM, meltV, tupV, D.asBox, D.row1, D.freeR, D.freeO, List.replicate_succ, stepD, accs, accP, accW, simpleOp, isAl, isExt, flipD, D.fresh1, D.row, D.plain, D.plain.plainL, St.close, St.close1, St.borrow, retV, resV, resL, outCL, outC, outL, outD, wantedV, opV, An.mid, thawV, St.settle, D.plainU, prune, envOf, get, put, eval, evalT, nz, argsV, capsV, ofV, binV, binV.aggV, unV, intV, eqOp, isConst, natV, optV, loadV, loadC, storeV, setC, St.at_, partV, partTy, indexAddrV, fieldAddrV, sliceV, sliceV.rowSl, sliceV.strSl, bounds, cutP, builtinV, lenV, maxL, maxV, appendV, St.elems, roomy, rowOf, rowS, isStr, esz, tdOf, convV, buildV, fillV, partsV, okParts, fillL, D.whole, D.demoteC, D.demote, demoteL, D.global, D.flat, D.leaf, D.cells, TI.agg, TD.rowish, callOpV, moveL, CC, keepB, St.borrowL, St.borrow, D.isLsl, adoptR, adoptC, adoptCL, adoptL, adopt, List.toArray, Array.toList, Nat.reduceEqDiff, Nat.reduceAdd, Nat.reduceSub, Nat.reduceMul, Nat.reduceLeDiff, Nat.reduceLT, reduceIte, reduceCtorEq, forall_const, imp_self, Int.reduceNeg, Int.reduceLT, Int.reduceLE, Int.reduceGT, Int.reduceGE, Int.reduceAdd, Int.reduceSub, Int.reduceMul, Int.reduceToNat, Int.reduceEq, ne_eq, eq_self]
    all_goals rfl
  rintro x st' ⟨rfl, ρ, i, rfl, h1, h2, h3, r0, r1, r2, r8, r9⟩
  refine ⟨i, h1, h2, h3, ?_⟩
  have g1 := pnat i
  rcases Nat.lt_or_ge i l.length with h | h
  · have g0 : (i : Int) < l.length := by omega
    have e1 := ce_get h
    have ek := ky_get h
    have c1 := c54 hC (l.getD i default) key
    have h3i := h3 i (Nat.le_refl _) h
    rw [← ek] at h3i
    unfold cmpS at c1
    rw [h3i, if_neg (by decide)] at c1
    rw [decide_eq_true h, Bool.true_and, ← ek]
    cases h4 : lt key (l.getD i default).k with
    | true =>
      rw [h4, if_pos rfl] at c1
      have e2 : ((l.getD i default).k == key) = false := by
        rw [beq_eq_false_iff_ne]
        rintro e
        rw [e, lt_irrefl] at h4; cases h4
      rw [e2]
      simp only [r0, r1, r2, r8, r9, g0, g1, e1, c1, Int.toNat_natCast, T3, T9, T31, T45, T132, EL, e_finWf, e_finWt, e_finMN, e_finMX, retM, meltV, tupV, D.asBox, D.row1, D.freeR, D.freeO, List.replicate_succ, stepD, accs, accP, accW, simpleOp, isAl, isExt, flipD, D.fresh1, D.row, D.plain, D.plain.plainL, St.close, St.close1, St.borrow, retV, resV, resL, outCL, outC, outL, outD, wantedV, opV, An.mid, thawV, St.settle, D.plainU, prune, envOf, get, put, eval, evalT, nz, argsV, capsV, ofV, binV, binV.aggV, unV, intV, eqOp, isConst, natV, optV, loadV, loadC, storeV, setC, St.at_, partV, partTy, indexAddrV, fieldAddrV, sliceV, sliceV.rowSl, sliceV.strSl, bounds, cutP, builtinV, lenV, maxL, maxV, appendV, St.elems, roomy, rowOf, rowS, isStr, esz, tdOf, convV, buildV, fillV, partsV, okParts, fillL, D.whole, D.demoteC, D.demote, demoteL, D.global, D.flat, D.leaf, D.cells, TI.agg, TD.rowish, callOpV, moveL, CC, keepB, St.borrowL, St.borrow, D.isLsl, adoptR, adoptC, adoptCL, adoptL, adopt, List.toArray, Array.toList, Nat.reduceEqDiff, Nat.reduceAdd, Nat.reduceSub, Nat.reduceMul, Nat.reduceLeDiff, Nat.reduceLT, reduceIte, reduceCtorEq, forall_const, imp_self, Int.reduceNeg, Int.reduceLT, Int.reduceLE, Int.reduceGT, Int.reduceGE, Int.reduceAdd, Int.reduceSub, Int.reduceMul, Int.reduceToNat, Int.reduceEq, ne_eq, eq_self]
    | false =>
      rw [h4, if_neg (by decide)] at c1
      have e2 : ((l.getD i default).k == key) = true := by rw [lt_total h3i h4]; simp
      rw [e2]
      simp only [r0, r1, r2, r8, r9, g0, g1, e1, c1, Int.toNat_natCast, T3, T9, T31, T45, T132, EL, e_finWf, e_finWt, e_finMN, e_finMX, retM, meltV, tupV, D.asBox, D.row1, D.freeR, D.freeO, List.replicate_succ, stepD, accs, accP, accW, simpleOp, isAl, isExt, flipD, D.fresh1, D.row, D.plain, D.plain.plainL, St.close, St.close1, St.borrow, retV, resV, resL, outCL, outC, outL, outD, wantedV, opV, An.mid, thawV, St.settle, D.plainU, prune, envOf, get, put, eval, evalT, nz, argsV, capsV, ofV, binV, binV.aggV, unV, intV, eqOp, isConst, natV, optV, loadV, loadC, storeV, setC, St.at_, partV, partTy, indexAddrV, fieldAddrV, sliceV, sliceV.rowSl, sliceV.strSl, bounds, cutP, builtinV, lenV, maxL, maxV, appendV, St.elems, roomy, rowOf, rowS, isStr, esz, tdOf, convV, buildV, fillV, partsV, okParts, fillL, D.whole, D.demoteC, D.demote, demoteL, D.global, D.flat, D.leaf, D.cells, TI.agg, TD.rowish, callOpV, moveL, CC, keepB, St.borrowL, St.borrow, D.isLsl, adoptR, adoptC, adoptCL, adoptL, adopt, List.toArray, Array.toList, Nat.reduceEqDiff, Nat.reduceAdd, Nat.reduceSub, Nat.reduceMul, Nat.reduceLeDiff, Nat.reduceLT, reduceIte, reduceCtorEq, forall_const, imp_self, Int.reduceNeg, Int.reduceLT, Int.reduceLE, Int.reduceGT, Int.reduceGE, Int.reduceAdd, Int.reduceSub, Int.reduceMul, Int.reduceToNat, Int.reduceEq, ne_eq, eq_self]
  · have g0 : ¬ (i : Int) < l.length := by omega
    rw [decide_eq_false (by omega), Bool.false_and]
    simp only [r0, r1, r2, r8, r9, g0, g1, Int.toNat_natCast, T3, T9, T31, T45, T132, EL, e_finWf, e_finWt, e_finMN, e_finMX, retM, meltV, tupV, D.asBox, D.row1, D.freeR, D.freeO, List.replicate_succ, stepD, accs, accP, accW, simpleOp, isAl, isExt, flipD, D.fresh1, D.row, D.plain, D.plain.plainL, St.close, St.close1, St.borrow, retV, resV, resL, outCL, outC, outL, outD, wantedV, opV, An.mid, thawV, St.settle, D.plainU, prune, envOf, get, put, eval, evalT, nz, argsV, capsV, ofV, binV, binV.aggV, unV, intV, eqOp, isConst, natV, optV, loadV, loadC, storeV, setC, St.at_, partV, partTy, indexAddrV, fieldAddrV, sliceV, sliceV.rowSl, sliceV.strSl, bounds, cutP, builtinV, lenV, maxL, maxV, appendV, St.elems, roomy, rowOf, rowS, isStr, esz, tdOf, convV, buildV, fillV, partsV, okParts, fillL, D.whole, D.demoteC, D.demote, demoteL, D.global, D.flat, D.leaf, D.cells, TI.agg, TD.rowish, callOpV, moveL, CC, keepB, St.borrowL, St.borrow, D.isLsl, adoptR, adoptC, adoptCL, adoptL, adopt, List.toArray, Array.toList, Nat.reduceEqDiff, Nat.reduceAdd, Nat.reduceSub, Nat.reduceMul, Nat.reduceLeDiff, Nat.reduceLT, reduceIte, reduceCtorEq, forall_const, imp_self, Int.reduceNeg, Int.reduceLT, Int.reduceLE, Int.reduceGT, Int.reduceGE, Int.reduceAdd, Int.reduceSub, Int.reduceMul, Int.reduceToNat, Int.reduceEq, ne_eq, eq_self]

set_option maxRecDepth 10000 in
theorem run20 (hC : Lib08B C) (l : List Ce) (key : Ky) (hl : l.length ≤ 100000) (hs : sortK (kyS l)) (B : Hp) : ∃ i, i ≤ l.length ∧ (∀ a, a < i → lt ((kyS l).getD a []) key = true) ∧ (∀ a, i ≤ a → a < l.length → lt ((kyS l).getD a []) key = false) ∧
    C 20 [.vec 4 (l.map ceD) .none, .str key] B = some (.tuple [.int .i64 (i : Nat), .bool (decide (i < l.length) && ((kyS l).getD i [] == key))], B) := by
  obtain ⟨i, h1, h2, h3, h4⟩ := run53 hC l key hl hs B
  have c1 := hC.f53 _ _ _ h4
  refine ⟨i, h1, h2, h3, hC.f20 _ _ _ ?_⟩
  rw [e_run _ _ _ rfl]
  simp only [fi20, Tryd.f20, an20, c1, EL, e_finWf, e_finWt, e_finMN, e_finMX, retM, meltV, tupV, D.asBox, D.row1, D.freeR, D.freeO, List.replicate_succ, stepD, accs, accP, accW, simpleOp, isAl, isExt, flipD, D.fresh1, D.row, D.plain, D.plain.plainL, St.close, St.close1, St.borrow, retV, resV, resL, outCL, outC, outL, outD, wantedV, opV, An.mid, thawV, St.settle, D.plainU, prune, envOf, get, put, eval, evalT, nz, argsV, capsV, ofV, binV, binV.aggV, unV, intV, eqOp, isConst, natV, optV, loadV, loadC, storeV, setC, St.at_, partV, partTy, indexAddrV, fieldAddrV, sliceV, sliceV.rowSl, sliceV.strSl, bounds, cutP, builtinV, lenV, maxL, maxV, appendV, St.elems, roomy, rowOf, rowS, isStr, esz, tdOf, convV, buildV, fillV, partsV, okParts, fillL, D.whole, D.demoteC, D.demote, demoteL, D.global, D.flat, D.leaf, D.cells, TI.agg, TD.rowish, callOpV, moveL, CC, keepB, St.borrowL, St.borrow, D.isLsl, adoptR, adoptC, adoptCL, adoptL, adopt, List.toArray, Array.toList, Nat.reduceEqDiff, Nat.reduceAdd, Nat.reduceSub, Nat.reduceMul, Nat.reduceLeDiff, Nat.reduceLT, reduceIte, reduceCtorEq, forall_const, imp_self, Int.reduceNeg, Int.reduceLT, Int.reduceLE, Int.reduceGT, Int.reduceGE, Int.reduceAdd, Int.reduceSub, Int.reduceMul, Int.reduceToNat, Int.reduceEq, ne_eq, eq_self]

end Go.Proofs.YtfkhijjabkhmmaaDoor.V
