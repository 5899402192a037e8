/-
Layer 8: the document's cells out of loads.
-/
import Derived.Test.YtfkhijjabkhmmaaDoorGE
namespace Go.Proofs.YtfkhijjabkhmmaaDoor.V
open Go Go.RowKit
set_option linter.unusedSimpArgs false
set_option linter.unusedVariables false

/-! warren/warrenref08.Decode -/
def an15 : An := ⟨fun | 6 => some [4, 5, 6, 7] | _ => .none, fun _ => 0, fun _ => false, fun _ => .none⟩
noncomputable def fi15 : FI := ⟨1, 110, Tryd.f15.body.getD .skip, Tryd.f15.results.toList, an15, false, true, false⟩
theorem ok15 : FnOk Tryd.prog 15 fi15 := ⟨⟨Tryd.f15, Tryd.func15, by kernel_rfl, rfl, rfl, rfl⟩, by decide, by kernel_rfl, fun h => by cases h⟩
noncomputable def lp15_0 : Code := subC [1, 1, 1, 1, 0, 1, 0, 0] (Tryd.f15.body.getD .skip)   -- head 6 keep [4, 5, 6, 7]
structure Lib08E (C : Callees) : Prop extends Lib08D C where
  f15 : Has T C 15 fi15

variable {C : Callees}

def st15 (B : Hp) (n : Nat) (x : List UInt8 × List Ce × Bool) : St := ⟨[(4, .lptr 0 0), (5, .int .u64 (n : Nat)), (6, .vec 4 (x.2.1.map ceD) (bif x.2.2 then .own 0 else .exact)), (7, .int .u64 (x.2.1.length : Nat))], [some [.vec 1 (x.1.map byteD) .none, .bool false]], bif x.2.2 then [true] else [], B⟩

theorem Inv8.no {tgt : Option (List Ce)} {n : Nat} {q : List UInt8} {out : List Ce} (h : Inv8 tgt n (some q) out) (hn : out.length < n) (hc : cellS q = .none) : tgt = .none := by
  obtain ⟨m, e⟩ : ∃ m, n - out.length = m + 1 := ⟨n - out.length - 1, by omega⟩
  rw [h.ok q rfl, e, decN, hc]; rfl
theorem num_nil (m : Nat) : numS [] m = (.none, 0) := by rfl

set_option maxRecDepth 20000 in
set_option maxHeartbeats 4000000 in
theorem loop15 (hC : Lib08E C) (B : Hp) (tgt : Option (List Ce)) (n : Nat) (hn : n ≤ 504) (q0 : List UInt8) (h0 : Inv8 tgt n (some q0) []) (st : St) (hst : an15.at_ (some 6) st = st15 B n (q0, [], false)) :
    ∃ x st', loopC T an15 C lp15_0 st = some (x, st') ∧ ∃ ρ L τ, st' = ⟨ρ, L, τ, B⟩ ∧ ((x = .exit 0 ∧ ∃ q out b, Inv8 tgt n (some q) out ∧ out.length = n ∧ (b = false → out = []) ∧ L = [some [.vec 1 (q.map byteD) .none, .bool false]] ∧ get ρ 4 = .lptr 0 0 ∧ get ρ 6 = .vec 4 (out.map ceD) (bif b then .own 0 else .exact) ∧ τ = bif b then [true] else []) ∨ (x = .ret ∧ tgt = .none ∧ get ρ 2 = .vec 4 [] .exact ∧ get ρ 3 = .int .i64 3)) := by
  refine loop_rule (st15 B n) (fun x => Inv8 tgt n (some x.1) x.2.1 ∧ (x.2.2 = false → x.2.1 = [])) (fun x => n - x.2.1.length) _ ?_ (q0, [], false) st hst ⟨h0, fun _ => rfl⟩
  rintro ⟨q, out, b⟩ ⟨hI, hb⟩
  simp only at hI hb
  have hle := hI.le
  have hql : q.length ≤ 1000000 := hI.bd q rfl
  rcases Nat.lt_or_ge out.length n with h | h
  · have g0 : (out.length : Int) < n := by omega
    have c1 : ∀ B, C 47 [.agg [.vec 1 (q.map byteD) .none, .bool false], .int .i64 40] B = some (rbD (bytesP (some q) 40), B) := c47 hC.toLibPackB q false 40 (by decide) hql
    rcases hx : bytesP (some q) 40 with ⟨_ | q1, k⟩
    · rw [hx] at c1
      have c2 : ∀ B, C 46 [.agg [.vec 1 [] .none, .bool true], .int .u64 2048] B = some (.tuple [rfD (numS [] 2048).1, .int .u64 ((numS [] 2048).2 : Nat)], B) := c46 hC.toLibPack [] true 2048 (by decide)
      rw [num_nil] at c2
      unfold rfD at c2
      unfold rbD at c1
      simp only at c1 c2
      have hc : cellS q = .none := by unfold cellS; rw [hx]
      have ht := hI.no h hc
      right
      cases b <;>
      · simp only [st15, cond_true, cond_false]
        simp only [st15, lp15_0, subC, atC, Tryd.f15, an15, g0, c1, c2, pz0, sC_nil, sC_zero, sC_succ, T3, T4, T5, T9, T22, T23, T26, T84, T94, EL, e_finWf, e_finWt, e_finMN, e_finMX, retM, meltV, tupV, D.asBox, D.row1, D.freeR, D.freeO, List.replicate_succ, stepD, accs, accP, accW, simpleOp, isAl, isExt, flipD, D.fresh1, D.row, D.plain, D.plain.plainL, St.close, St.close1, St.borrow, retV, resV, resL, outCL, outC, outL, outD, wantedV, opV, An.mid, thawV, St.settle, D.plainU, prune, envOf, get, put, eval, evalT, nz, argsV, capsV, ofV, binV, binV.aggV, unV, intV, eqOp, isConst, natV, optV, loadV, loadC, storeV, St.at_, partV, partTy, indexAddrV, fieldAddrV, sliceV, sliceV.rowSl, sliceV.strSl, bounds, cutP, builtinV, lenV, maxL, maxV, appendV, St.elems, roomy, rowOf, rowS, isStr, esz, tdOf, convV, buildV, fillV, partsV, okParts, fillL, D.whole, D.demoteC, D.demote, demoteL, D.global, D.flat, D.leaf, D.cells, TI.agg, TD.rowish, callOpV, moveL, CC, keepB, St.borrowL, St.borrow, D.isLsl, adoptR, adoptC, adoptCL, adoptL, adopt, List.toArray, Array.toList, Nat.reduceEqDiff, Nat.reduceAdd, Nat.reduceSub, Nat.reduceMul, Nat.reduceLeDiff, Nat.reduceLT, reduceIte, reduceCtorEq, forall_const, imp_self, Int.reduceNeg, Int.reduceLT, Int.reduceLE, Int.reduceGT, Int.reduceGE, Int.reduceAdd, Int.reduceSub, Int.reduceMul, Int.reduceToNat, Int.reduceEq, ne_eq, eq_self]
        exact ⟨_, _, rfl, by simp, _, _, _, rfl, .inr ⟨rfl, ht, rfl, rfl⟩⟩
    · rw [hx] at c1
      unfold rbD at c1
      simp only at c1
      have hq1 : q1.length ≤ 1000000 := by
        obtain ⟨_, e1, _, e2⟩ := bytesP_len (s := some q) (m := 40) (r := q1) (by rw [hx])
        injection e1 with e1
        subst e1
        omega
      have c2 : ∀ B, C 46 [.agg [.vec 1 (q1.map byteD) .none, .bool false], .int .u64 2048] B = some (.tuple [rfD (numS q1 2048).1, .int .u64 ((numS q1 2048).2 : Nat)], B) := c46 hC.toLibPack q1 false 2048 hq1
      have hbn := (numS_bnd q1 2048).1
      rcases hy : numS q1 2048 with ⟨_ | q2, g⟩
      · rw [hy] at c2
        unfold rfD at c2
        simp only at c2
        have hc : cellS q = .none := by unfold cellS; rw [hx]; simp only [hy]
        have ht := hI.no h hc
        right
        cases b <;>
        · simp only [st15, cond_true, cond_false]
          simp only [st15, lp15_0, subC, atC, Tryd.f15, an15, g0, c1, c2, pz0, sC_nil, sC_zero, sC_succ, T3, T4, T5, T9, T22, T23, T26, T84, T94, EL, e_finWf, e_finWt, e_finMN, e_finMX, retM, meltV, tupV, D.asBox, D.row1, D.freeR, D.freeO, List.replicate_succ, stepD, accs, accP, accW, simpleOp, isAl, isExt, flipD, D.fresh1, D.row, D.plain, D.plain.plainL, St.close, St.close1, St.borrow, retV, resV, resL, outCL, outC, outL, outD, wantedV, opV, An.mid, thawV, St.settle, D.plainU, prune, envOf, get, put, eval, evalT, nz, argsV, capsV, ofV, binV, binV.aggV, unV, intV, eqOp, isConst, natV, optV, loadV, loadC, storeV, St.at_, partV, partTy, indexAddrV, fieldAddrV, sliceV, sliceV.rowSl, sliceV.strSl, bounds, cutP, builtinV, lenV, maxL, maxV, appendV, St.elems, roomy, rowOf, rowS, isStr, esz, tdOf, convV, buildV, fillV, partsV, okParts, fillL, D.whole, D.demoteC, D.demote, demoteL, D.global, D.flat, D.leaf, D.cells, TI.agg, TD.rowish, callOpV, moveL, CC, keepB, St.borrowL, St.borrow, D.isLsl, adoptR, adoptC, adoptCL, adoptL, adopt, List.toArray, Array.toList, Nat.reduceEqDiff, Nat.reduceAdd, Nat.reduceSub, Nat.reduceMul, Nat.reduceLeDiff, Nat.reduceLT, reduceIte, reduceCtorEq, forall_const, imp_self, Int.reduceNeg, Int.reduceLT, Int.reduceLE, Int.reduceGT, Int.reduceGE, Int.reduceAdd, Int.reduceSub, Int.reduceMul, Int.reduceToNat, Int.reduceEq, ne_eq, eq_self]
          exact ⟨_, _, rfl, by simp, _, _, _, rfl, .inr ⟨rfl, ht, rfl, rfl⟩⟩
      · rw [hy] at c2 hbn
        unfold rfD at c2
        simp only at c2 hbn
        have w1 : IntKind.i64.wrap (g : Int) = g := wrapI (by omega) (by omega)
        have hcell : cellS q = if 64 < g then (match q2 with
            | a :: b :: r => some (⟨k, [], (g : Nat), ((a.toNat * 256 + b.toNat : Nat) : Int)⟩, r)
            | _ => .none) else if g ≤ q2.length then some (⟨k, q2.take g, (g : Nat), 0⟩, q2.drop g) else .none := by
          unfold cellS; rw [hx]; simp only [hy]; rfl
        by_cases hg : 64 < g
        · have x1 : (g : Int) > 64 := by omega
          rw [if_pos hg] at hcell
          match q2, hcell, c2 with
          | [], hc, c2 =>
            have ht := hI.no h hc
            right
            have x2 : (0 : Int) < 2 := by decide
            cases b <;>
            · simp only [st15, cond_true, cond_false]
              simp only [st15, lp15_0, subC, atC, Tryd.f15, an15, g0, c1, c2, w1, x1, x2, bytesOf_map, pz0, sC_nil, sC_zero, sC_succ, T3, T4, T5, T9, T22, T23, T26, T84, T94, EL, e_finWf, e_finWt, e_finMN, e_finMX, retM, meltV, tupV, D.asBox, D.row1, D.freeR, D.freeO, List.replicate_succ, stepD, accs, accP, accW, simpleOp, isAl, isExt, flipD, D.fresh1, D.row, D.plain, D.plain.plainL, St.close, St.close1, St.borrow, retV, resV, resL, outCL, outC, outL, outD, wantedV, opV, An.mid, thawV, St.settle, D.plainU, prune, envOf, get, put, eval, evalT, nz, argsV, capsV, ofV, binV, binV.aggV, unV, intV, eqOp, isConst, natV, optV, loadV, loadC, storeV, St.at_, partV, partTy, indexAddrV, fieldAddrV, sliceV, sliceV.rowSl, sliceV.strSl, bounds, cutP, builtinV, lenV, maxL, maxV, appendV, St.elems, roomy, rowOf, rowS, isStr, esz, tdOf, convV, buildV, fillV, partsV, okParts, fillL, D.whole, D.demoteC, D.demote, demoteL, D.global, D.flat, D.leaf, D.cells, TI.agg, TD.rowish, callOpV, moveL, CC, keepB, St.borrowL, St.borrow, D.isLsl, adoptR, adoptC, adoptCL, adoptL, adopt, List.toArray, Array.toList, Nat.reduceEqDiff, Nat.reduceAdd, Nat.reduceSub, Nat.reduceMul, Nat.reduceLeDiff, Nat.reduceLT, reduceIte, reduceCtorEq, forall_const, imp_self, Int.reduceNeg, Int.reduceLT, Int.reduceLE, Int.reduceGT, Int.reduceGE, Int.reduceAdd, Int.reduceSub, Int.reduceMul, Int.reduceToNat, Int.reduceEq, ne_eq, eq_self]
              exact ⟨_, _, rfl, by simp, _, _, _, rfl, .inr ⟨rfl, ht, rfl, rfl⟩⟩
          | [y], hc, c2 =>
            have ht := hI.no h hc
            right
            have x2 : ((0 + 1 : Nat) : Int) < 2 := by decide
            have x3 : ((1 : Nat) : Int) < 2 := by decide
            cases b <;>
            · simp only [st15, cond_true, cond_false]
              simp only [st15, lp15_0, subC, atC, Tryd.f15, an15, g0, c1, c2, w1, x1, x2, x3, bytesOf_map, sC_nil, sC_zero, sC_succ, T3, T4, T5, T9, T22, T23, T26, T84, T94, EL, e_finWf, e_finWt, e_finMN, e_finMX, retM, meltV, tupV, D.asBox, D.row1, D.freeR, D.freeO, List.replicate_succ, stepD, accs, accP, accW, simpleOp, isAl, isExt, flipD, D.fresh1, D.row, D.plain, D.plain.plainL, St.close, St.close1, St.borrow, retV, resV, resL, outCL, outC, outL, outD, wantedV, opV, An.mid, thawV, St.settle, D.plainU, prune, envOf, get, put, eval, evalT, nz, argsV, capsV, ofV, binV, binV.aggV, unV, intV, eqOp, isConst, natV, optV, loadV, loadC, storeV, St.at_, partV, partTy, indexAddrV, fieldAddrV, sliceV, sliceV.rowSl, sliceV.strSl, bounds, cutP, builtinV, lenV, maxL, maxV, appendV, St.elems, roomy, rowOf, rowS, isStr, esz, tdOf, convV, buildV, fillV, partsV, okParts, fillL, D.whole, D.demoteC, D.demote, demoteL, D.global, D.flat, D.leaf, D.cells, TI.agg, TD.rowish, callOpV, moveL, CC, keepB, St.borrowL, St.borrow, D.isLsl, adoptR, adoptC, adoptCL, adoptL, adopt, List.toArray, Array.toList, Nat.reduceEqDiff, Nat.reduceAdd, Nat.reduceSub, Nat.reduceMul, Nat.reduceLeDiff, Nat.reduceLT, reduceIte, reduceCtorEq, forall_const, imp_self, Int.reduceNeg, Int.reduceLT, Int.reduceLE, Int.reduceGT, Int.reduceGE, Int.reduceAdd, Int.reduceSub, Int.reduceMul, Int.reduceToNat, Int.reduceEq, ne_eq, eq_self]
              exact ⟨_, _, rfl, by simp, _, _, _, rfl, .inr ⟨rfl, ht, rfl, rfl⟩⟩
          | a1 :: b1 :: r, hc, c2 =>
            simp only at hc
            have ha := a1.toNat_lt
            have hb1 := b1.toNat_lt
            have x2 : ¬ ((r.length + 1 + 1 : Nat) : Int) < 2 := by omega
            have x3 : 2 ≤ r.length + 1 + 1 := by omega
            have x4 : 1 ≤ r.length + 1 := by omega
            have y1 : IntKind.i64.wrap (a1.toNat : Int) = a1.toNat := wrapI (by omega) (by omega)
            have y2 : IntKind.i64.wrap (b1.toNat : Int) = b1.toNat := wrapI (by omega) (by omega)
            have y3 : IntKind.i64.wrap (256 * (a1.toNat : Int)) = ((a1.toNat * 256 : Nat) : Int) := by rw [wrapI (by omega) (by omega)]; omega
            have y4 : IntKind.i64.wrap (((a1.toNat * 256 : Nat) : Int) + (b1.toNat : Int)) = ((a1.toNat * 256 + b1.toNat : Nat) : Int) := by rw [wrapI (by omega) (by omega)]; rfl
            have tl : ∀ (a b : D), ((a :: b :: r.map byteD).take (r.length + 1 + 1)).drop 2 = r.map byteD := fun a b => by
              simp [List.take_of_length_le]
            generalize hpg : ((a1.toNat * 256 + b1.toNat : Nat) : Int) = pg at hc y4
            have hS := hI.step h
            have hF := hI.fail h
            rw [take_some hc] at hS hF
            simp only at hS hF
            have c4 := fun B => c22 hC.toLib08A ⟨k, [], (g : Nat), pg⟩ B
            simp only at c4
            have w5 : IntKind.u64.wrap ((out.length : Int) + 1) = ((out ++ [(⟨k, [], (g : Nat), pg⟩ : Ce)]).length : Nat) := by rw [wrap_u64 (by omega) (by omega)]; simp
            have r1 := roomy48 (n := out.length + 1) (by omega)
            have a1 := ce_app out ⟨k, [], (g : Nat), pg⟩
            simp only at a1
            cases ho : okC ⟨k, [], (g : Nat), pg⟩ with
            | false =>
              right
              rw [ho] at c4
              have ht := hF (.inl ho)
              cases b <;>
              · simp only [st15, cond_true, cond_false]
                simp only [st15, lp15_0, subC, atC, Tryd.f15, an15, g0, c1, c2, c4, w1, x1, x2, x3, x4, y1, y2, y3, y4, byteD, tl, bytesOf_map, List.take_length, Bool.not_false, sC_nil, sC_zero, sC_succ, T3, T4, T5, T9, T22, T23, T26, T84, T94, EL, e_finWf, e_finWt, e_finMN, e_finMX, retM, meltV, tupV, D.asBox, D.row1, D.freeR, D.freeO, List.replicate_succ, stepD, accs, accP, accW, simpleOp, isAl, isExt, flipD, D.fresh1, D.row, D.plain, D.plain.plainL, St.close, St.close1, St.borrow, retV, resV, resL, outCL, outC, outL, outD, wantedV, opV, An.mid, thawV, St.settle, D.plainU, prune, envOf, get, put, eval, evalT, nz, argsV, capsV, ofV, binV, binV.aggV, unV, intV, eqOp, isConst, natV, optV, loadV, loadC, storeV, St.at_, partV, partTy, indexAddrV, fieldAddrV, sliceV, sliceV.rowSl, sliceV.strSl, bounds, cutP, builtinV, lenV, maxL, maxV, appendV, St.elems, roomy, rowOf, rowS, isStr, esz, tdOf, convV, buildV, fillV, partsV, okParts, fillL, D.whole, D.demoteC, D.demote, demoteL, D.global, D.flat, D.leaf, D.cells, TI.agg, TD.rowish, callOpV, moveL, CC, keepB, St.borrowL, St.borrow, D.isLsl, adoptR, adoptC, adoptCL, adoptL, adopt, List.toArray, Array.toList, Nat.reduceEqDiff, Nat.reduceAdd, Nat.reduceSub, Nat.reduceMul, Nat.reduceLeDiff, Nat.reduceLT, reduceIte, reduceCtorEq, forall_const, imp_self, Int.reduceNeg, Int.reduceLT, Int.reduceLE, Int.reduceGT, Int.reduceGE, Int.reduceAdd, Int.reduceSub, Int.reduceMul, Int.reduceToNat, Int.reduceEq, ne_eq, eq_self]
                exact ⟨_, _, rfl, by simp, _, _, _, rfl, .inr ⟨rfl, ht, rfl, rfl⟩⟩
            | true =>
              rw [ho] at c4
              rcases Nat.eq_zero_or_pos out.length with hz | hz
              · have g2 : ¬ (out.length : Int) > 0 := by omega
                obtain rfl : out = [] := List.length_eq_zero_iff.1 hz
                left
                refine ⟨(r, [] ++ [⟨k, [], (g : Nat), pg⟩], true), ?_, ⟨hS ho rfl, fun h => by cases h⟩, by simp; omega⟩
                simp only [List.map_nil, List.length_nil, pz0, Nat.zero_add] at g0 g2 r1
                cases b <;>
                · simp only [st15, cond_true, cond_false, List.map_nil, List.length_nil, pz0]
                  simp only [st15, lp15_0, subC, atC, Tryd.f15, an15, g0, c1, c2, c4, w1, x1, x2, x3, x4, y1, y2, y3, y4, byteD, tl, bytesOf_map, List.take_length, g2, r1, Bool.not_true, List.nil_append, sC_nil, sC_zero, sC_succ, T3, T4, T5, T9, T22, T23, T26, T84, T94, EL, e_finWf, e_finWt, e_finMN, e_finMX, retM, meltV, tupV, D.asBox, D.row1, D.freeR, D.freeO, List.replicate_succ, stepD, accs, accP, accW, simpleOp, isAl, isExt, flipD, D.fresh1, D.row, D.plain, D.plain.plainL, St.close, St.close1, St.borrow, retV, resV, resL, outCL, outC, outL, outD, wantedV, opV, An.mid, thawV, St.settle, D.plainU, prune, envOf, get, put, eval, evalT, nz, argsV, capsV, ofV, binV, binV.aggV, unV, intV, eqOp, isConst, natV, optV, loadV, loadC, storeV, St.at_, partV, partTy, indexAddrV, fieldAddrV, sliceV, sliceV.rowSl, sliceV.strSl, bounds, cutP, builtinV, lenV, maxL, maxV, appendV, St.elems, rowOf, rowS, isStr, esz, tdOf, convV, buildV, fillV, partsV, okParts, fillL, D.whole, D.demoteC, D.demote, demoteL, D.global, D.flat, D.leaf, D.cells, TI.agg, TD.rowish, callOpV, moveL, CC, keepB, St.borrowL, St.borrow, D.isLsl, adoptR, adoptC, adoptCL, adoptL, adopt, List.toArray, Array.toList, Nat.reduceEqDiff, Nat.reduceAdd, Nat.reduceSub, Nat.reduceMul, Nat.reduceLeDiff, Nat.reduceLT, reduceIte, reduceCtorEq, forall_const, imp_self, Int.reduceNeg, Int.reduceLT, Int.reduceLE, Int.reduceGT, Int.reduceGE, Int.reduceAdd, Int.reduceSub, Int.reduceMul, Int.reduceToNat, Int.reduceEq, ne_eq, eq_self]
                  exact ⟨_, rfl, rfl⟩
              · have g2 : (out.length : Int) > 0 := by omega
                have w6 : IntKind.i64.wrap ((out.length : Int) - 1) = ((out.length - 1 : Nat) : Int) := by rw [wrapI (by omega) (by omega)]; omega
                have g3 := pnat (out.length - 1)
                have e2 := ce_get (l := out) (i := out.length - 1) (by omega)
                have s1 : strV .geq (out.getD (out.length - 1) default).k k = some (.bool (!lt (out.getD (out.length - 1) default).k k)) := rfl
                have hK := lastK_pos hz
                have hP : ordC (lastK out) k = lt (out.getD (out.length - 1) default).k k := by rw [hK]; rfl
                have hbt : b = true := by
                  cases b with
                  | true => rfl
                  | false => rw [hb rfl] at hz; simp at hz
                subst hbt
                cases hlt : lt (out.getD (out.length - 1) default).k k <;> rw [hlt] at s1 hP
                · right
                  have ht := hF (.inr hP)
                  simp only [st15, cond_true, cond_false]
                  simp only [st15, lp15_0, subC, atC, Tryd.f15, an15, g0, c1, c2, c4, w1, x1, x2, x3, x4, y1, y2, y3, y4, byteD, tl, bytesOf_map, List.take_length, g2, g3, w6, e2, s1, Bool.not_true, Bool.not_false, Int.toNat_natCast, sC_nil, sC_zero, sC_succ, T3, T4, T5, T9, T22, T23, T26, T84, T94, EL, e_finWf, e_finWt, e_finMN, e_finMX, retM, meltV, tupV, D.asBox, D.row1, D.freeR, D.freeO, List.replicate_succ, stepD, accs, accP, accW, simpleOp, isAl, isExt, flipD, D.fresh1, D.row, D.plain, D.plain.plainL, St.close, St.close1, St.borrow, retV, resV, resL, outCL, outC, outL, outD, wantedV, opV, An.mid, thawV, St.settle, D.plainU, prune, envOf, get, put, eval, evalT, nz, argsV, capsV, ofV, binV, binV.aggV, unV, intV, eqOp, isConst, natV, optV, loadV, loadC, storeV, St.at_, partV, partTy, indexAddrV, fieldAddrV, sliceV, sliceV.rowSl, sliceV.strSl, bounds, cutP, builtinV, lenV, maxL, maxV, appendV, St.elems, roomy, rowOf, rowS, isStr, esz, tdOf, convV, buildV, fillV, partsV, okParts, fillL, D.whole, D.demoteC, D.demote, demoteL, D.global, D.flat, D.leaf, D.cells, TI.agg, TD.rowish, callOpV, moveL, CC, keepB, St.borrowL, St.borrow, D.isLsl, adoptR, adoptC, adoptCL, adoptL, adopt, List.toArray, Array.toList, Nat.reduceEqDiff, Nat.reduceAdd, Nat.reduceSub, Nat.reduceMul, Nat.reduceLeDiff, Nat.reduceLT, reduceIte, reduceCtorEq, forall_const, imp_self, Int.reduceNeg, Int.reduceLT, Int.reduceLE, Int.reduceGT, Int.reduceGE, Int.reduceAdd, Int.reduceSub, Int.reduceMul, Int.reduceToNat, Int.reduceEq, ne_eq, eq_self]
                  exact ⟨_, _, rfl, by simp, _, _, _, rfl, .inr ⟨rfl, ht, rfl, rfl⟩⟩
                · left
                  refine ⟨(r, out ++ [⟨k, [], (g : Nat), pg⟩], true), ?_, ⟨hS ho hP, fun h => by cases h⟩, by simp; omega⟩
                  simp only [st15, cond_true, cond_false]
                  generalize out ++ [⟨k, [], (g : Nat), pg⟩] = out2 at w5 a1
                  simp only [st15, lp15_0, subC, atC, Tryd.f15, an15, g0, c1, c2, c4, w1, x1, x2, x3, x4, y1, y2, y3, y4, byteD, tl, bytesOf_map, List.take_length, g2, g3, w5, w6, a1, r1, e2, s1, Bool.not_true, Int.toNat_natCast, sC_nil, sC_zero, sC_succ, T3, T4, T5, T9, T22, T23, T26, T84, T94, EL, e_finWf, e_finWt, e_finMN, e_finMX, retM, meltV, tupV, D.asBox, D.row1, D.freeR, D.freeO, List.replicate_succ, stepD, accs, accP, accW, simpleOp, isAl, isExt, flipD, D.fresh1, D.row, D.plain, D.plain.plainL, St.close, St.close1, St.borrow, retV, resV, resL, outCL, outC, outL, outD, wantedV, opV, An.mid, thawV, St.settle, D.plainU, prune, envOf, get, put, eval, evalT, nz, argsV, capsV, ofV, binV, binV.aggV, unV, intV, eqOp, isConst, natV, optV, loadV, loadC, storeV, St.at_, partV, partTy, indexAddrV, fieldAddrV, sliceV, sliceV.rowSl, sliceV.strSl, bounds, cutP, builtinV, lenV, maxL, maxV, appendV, St.elems, rowOf, rowS, isStr, esz, tdOf, convV, buildV, fillV, partsV, okParts, fillL, D.whole, D.demoteC, D.demote, demoteL, D.global, D.flat, D.leaf, D.cells, TI.agg, TD.rowish, callOpV, moveL, CC, keepB, St.borrowL, St.borrow, D.isLsl, adoptR, adoptC, adoptCL, adoptL, adopt, List.toArray, Array.toList, Nat.reduceEqDiff, Nat.reduceAdd, Nat.reduceSub, Nat.reduceMul, Nat.reduceLeDiff, Nat.reduceLT, reduceIte, reduceCtorEq, forall_const, imp_self, Int.reduceNeg, Int.reduceLT, Int.reduceLE, Int.reduceGT, Int.reduceGE, Int.reduceAdd, Int.reduceSub, Int.reduceMul, Int.reduceToNat, Int.reduceEq, ne_eq, eq_self]
                  exact ⟨_, rfl, rfl⟩
        · have x1 : ¬ (g : Int) > 64 := by omega
          rw [if_neg hg] at hcell
          by_cases hle2 : g ≤ q2.length
          · rw [if_pos hle2] at hcell
            have hc := hcell
            have x2 : ¬ ((q2.length : Nat) : Int) < g := by omega
            have x3 := pnat g
            have tl : ((q2.map byteD).take q2.length).drop g = (q2.drop g).map byteD := by
              rw [List.take_of_length_le (by simp), List.map_drop]
            have tk : (q2.map byteD).take g = (q2.take g).map byteD := List.map_take.symm
            have hS := hI.step h
            have hF := hI.fail h
            rw [take_some hc] at hS hF
            simp only at hS hF
            have c4 := fun B => c22 hC.toLib08A ⟨k, q2.take g, (g : Nat), 0⟩ B
            simp only at c4
            have w5 : IntKind.u64.wrap ((out.length : Int) + 1) = ((out ++ [(⟨k, q2.take g, (g : Nat), 0⟩ : Ce)]).length : Nat) := by rw [wrap_u64 (by omega) (by omega)]; simp
            have r1 := roomy48 (n := out.length + 1) (by omega)
            have a1 := ce_app out ⟨k, q2.take g, (g : Nat), 0⟩
            simp only at a1
            cases ho : okC ⟨k, q2.take g, (g : Nat), 0⟩ with
            | false =>
              right
              rw [ho] at c4
              have ht := hF (.inl ho)
              cases b <;>
              · simp only [st15, cond_true, cond_false]
                simp only [st15, lp15_0, subC, atC, Tryd.f15, an15, g0, c1, c2, c4, w1, x1, x2, x3, hle2, tl, tk, bytesOf_map, pz0, List.take_length, List.drop_zero, Int.toNat_natCast, Bool.not_false, sC_nil, sC_zero, sC_succ, T3, T4, T5, T9, T22, T23, T26, T84, T94, EL, e_finWf, e_finWt, e_finMN, e_finMX, retM, meltV, tupV, D.asBox, D.row1, D.freeR, D.freeO, List.replicate_succ, stepD, accs, accP, accW, simpleOp, isAl, isExt, flipD, D.fresh1, D.row, D.plain, D.plain.plainL, St.close, St.close1, St.borrow, retV, resV, resL, outCL, outC, outL, outD, wantedV, opV, An.mid, thawV, St.settle, D.plainU, prune, envOf, get, put, eval, evalT, nz, argsV, capsV, ofV, binV, binV.aggV, unV, intV, eqOp, isConst, natV, optV, loadV, loadC, storeV, St.at_, partV, partTy, indexAddrV, fieldAddrV, sliceV, sliceV.rowSl, sliceV.strSl, bounds, cutP, builtinV, lenV, maxL, maxV, appendV, St.elems, roomy, rowOf, rowS, isStr, esz, tdOf, convV, buildV, fillV, partsV, okParts, fillL, D.whole, D.demoteC, D.demote, demoteL, D.global, D.flat, D.leaf, D.cells, TI.agg, TD.rowish, callOpV, moveL, CC, keepB, St.borrowL, St.borrow, D.isLsl, adoptR, adoptC, adoptCL, adoptL, adopt, List.toArray, Array.toList, Nat.reduceEqDiff, Nat.reduceAdd, Nat.reduceSub, Nat.reduceMul, Nat.reduceLeDiff, Nat.reduceLT, reduceIte, reduceCtorEq, forall_const, imp_self, Int.reduceNeg, Int.reduceLT, Int.reduceLE, Int.reduceGT, Int.reduceGE, Int.reduceAdd, Int.reduceSub, Int.reduceMul, Int.reduceToNat, Int.reduceEq, ne_eq, eq_self]
                exact ⟨_, _, rfl, by simp, _, _, _, rfl, .inr ⟨rfl, ht, rfl, rfl⟩⟩
            | true =>
              rw [ho] at c4
              rcases Nat.eq_zero_or_pos out.length with hz | hz
              · have g2 : ¬ (out.length : Int) > 0 := by omega
                obtain rfl : out = [] := List.length_eq_zero_iff.1 hz
                left
                refine ⟨(q2.drop g, [] ++ [⟨k, q2.take g, (g : Nat), 0⟩], true), ?_, ⟨hS ho rfl, fun h => by cases h⟩, by simp; omega⟩
                simp only [List.map_nil, List.length_nil, pz0, Nat.zero_add] at g0 g2 r1
                cases b <;>
                · simp only [st15, cond_true, cond_false, List.map_nil, List.length_nil, pz0]
                  simp only [st15, lp15_0, subC, atC, Tryd.f15, an15, g0, c1, c2, c4, w1, x1, x2, x3, hle2, tl, tk, bytesOf_map, pz0, List.take_length, List.drop_zero, Int.toNat_natCast, g2, r1, Bool.not_true, List.nil_append, sC_nil, sC_zero, sC_succ, T3, T4, T5, T9, T22, T23, T26, T84, T94, EL, e_finWf, e_finWt, e_finMN, e_finMX, retM, meltV, tupV, D.asBox, D.row1, D.freeR, D.freeO, List.replicate_succ, stepD, accs, accP, accW, simpleOp, isAl, isExt, flipD, D.fresh1, D.row, D.plain, D.plain.plainL, St.close, St.close1, St.borrow, retV, resV, resL, outCL, outC, outL, outD, wantedV, opV, An.mid, thawV, St.settle, D.plainU, prune, envOf, get, put, eval, evalT, nz, argsV, capsV, ofV, binV, binV.aggV, unV, intV, eqOp, isConst, natV, optV, loadV, loadC, storeV, St.at_, partV, partTy, indexAddrV, fieldAddrV, sliceV, sliceV.rowSl, sliceV.strSl, bounds, cutP, builtinV, lenV, maxL, maxV, appendV, St.elems, rowOf, rowS, isStr, esz, tdOf, convV, buildV, fillV, partsV, okParts, fillL, D.whole, D.demoteC, D.demote, demoteL, D.global, D.flat, D.leaf, D.cells, TI.agg, TD.rowish, callOpV, moveL, CC, keepB, St.borrowL, St.borrow, D.isLsl, adoptR, adoptC, adoptCL, adoptL, adopt, List.toArray, Array.toList, Nat.reduceEqDiff, Nat.reduceAdd, Nat.reduceSub, Nat.reduceMul, Nat.reduceLeDiff, Nat.reduceLT, reduceIte, reduceCtorEq, forall_const, imp_self, Int.reduceNeg, Int.reduceLT, Int.reduceLE, Int.reduceGT, Int.reduceGE, Int.reduceAdd, Int.reduceSub, Int.reduceMul, Int.reduceToNat, Int.reduceEq, ne_eq, eq_self]
                  exact ⟨_, rfl, rfl⟩
              · have g2 : (out.length : Int) > 0 := by omega
                have w6 : IntKind.i64.wrap ((out.length : Int) - 1) = ((out.length - 1 : Nat) : Int) := by rw [wrapI (by omega) (by omega)]; omega
                have g3 := pnat (out.length - 1)
                have e2 := ce_get (l := out) (i := out.length - 1) (by omega)
                have s1 : strV .geq (out.getD (out.length - 1) default).k k = some (.bool (!lt (out.getD (out.length - 1) default).k k)) := rfl
                have hK := lastK_pos hz
                have hP : ordC (lastK out) k = lt (out.getD (out.length - 1) default).k k := by rw [hK]; rfl
                have hbt : b = true := by
                  cases b with
                  | true => rfl
                  | false => rw [hb rfl] at hz; simp at hz
                subst hbt
                cases hlt : lt (out.getD (out.length - 1) default).k k <;> rw [hlt] at s1 hP
                · right
                  have ht := hF (.inr hP)
                  simp only [st15, cond_true, cond_false]
                  simp only [st15, lp15_0, subC, atC, Tryd.f15, an15, g0, c1, c2, c4, w1, x1, x2, x3, hle2, tl, tk, bytesOf_map, pz0, List.take_length, List.drop_zero, Int.toNat_natCast, g2, g3, w6, e2, s1, Bool.not_true, Bool.not_false, Int.toNat_natCast, sC_nil, sC_zero, sC_succ, T3, T4, T5, T9, T22, T23, T26, T84, T94, EL, e_finWf, e_finWt, e_finMN, e_finMX, retM, meltV, tupV, D.asBox, D.row1, D.freeR, D.freeO, List.replicate_succ, stepD, accs, accP, accW, simpleOp, isAl, isExt, flipD, D.fresh1, D.row, D.plain, D.plain.plainL, St.close, St.close1, St.borrow, retV, resV, resL, outCL, outC, outL, outD, wantedV, opV, An.mid, thawV, St.settle, D.plainU, prune, envOf, get, put, eval, evalT, nz, argsV, capsV, ofV, binV, binV.aggV, unV, intV, eqOp, isConst, natV, optV, loadV, loadC, storeV, St.at_, partV, partTy, indexAddrV, fieldAddrV, sliceV, sliceV.rowSl, sliceV.strSl, bounds, cutP, builtinV, lenV, maxL, maxV, appendV, St.elems, roomy, rowOf, rowS, isStr, esz, tdOf, convV, buildV, fillV, partsV, okParts, fillL, D.whole, D.demoteC, D.demote, demoteL, D.global, D.flat, D.leaf, D.cells, TI.agg, TD.rowish, callOpV, moveL, CC, keepB, St.borrowL, St.borrow, D.isLsl, adoptR, adoptC, adoptCL, adoptL, adopt, List.toArray, Array.toList, Nat.reduceEqDiff, Nat.reduceAdd, Nat.reduceSub, Nat.reduceMul, Nat.reduceLeDiff, Nat.reduceLT, reduceIte, reduceCtorEq, forall_const, imp_self, Int.reduceNeg, Int.reduceLT, Int.reduceLE, Int.reduceGT, Int.reduceGE, Int.reduceAdd, Int.reduceSub, Int.reduceMul, Int.reduceToNat, Int.reduceEq, ne_eq, eq_self]
                  exact ⟨_, _, rfl, by simp, _, _, _, rfl, .inr ⟨rfl, ht, rfl, rfl⟩⟩
                · left
                  refine ⟨(q2.drop g, out ++ [⟨k, q2.take g, (g : Nat), 0⟩], true), ?_, ⟨hS ho hP, fun h => by cases h⟩, by simp; omega⟩
                  simp only [st15, cond_true, cond_false]
                  generalize out ++ [⟨k, q2.take g, (g : Nat), 0⟩] = out2 at w5 a1
                  simp only [st15, lp15_0, subC, atC, Tryd.f15, an15, g0, c1, c2, c4, w1, x1, x2, x3, hle2, tl, tk, bytesOf_map, pz0, List.take_length, List.drop_zero, Int.toNat_natCast, g2, g3, w5, w6, a1, r1, e2, s1, Bool.not_true, Int.toNat_natCast, sC_nil, sC_zero, sC_succ, T3, T4, T5, T9, T22, T23, T26, T84, T94, EL, e_finWf, e_finWt, e_finMN, e_finMX, retM, meltV, tupV, D.asBox, D.row1, D.freeR, D.freeO, List.replicate_succ, stepD, accs, accP, accW, simpleOp, isAl, isExt, flipD, D.fresh1, D.row, D.plain, D.plain.plainL, St.close, St.close1, St.borrow, retV, resV, resL, outCL, outC, outL, outD, wantedV, opV, An.mid, thawV, St.settle, D.plainU, prune, envOf, get, put, eval, evalT, nz, argsV, capsV, ofV, binV, binV.aggV, unV, intV, eqOp, isConst, natV, optV, loadV, loadC, storeV, St.at_, partV, partTy, indexAddrV, fieldAddrV, sliceV, sliceV.rowSl, sliceV.strSl, bounds, cutP, builtinV, lenV, maxL, maxV, appendV, St.elems, rowOf, rowS, isStr, esz, tdOf, convV, buildV, fillV, partsV, okParts, fillL, D.whole, D.demoteC, D.demote, demoteL, D.global, D.flat, D.leaf, D.cells, TI.agg, TD.rowish, callOpV, moveL, CC, keepB, St.borrowL, St.borrow, D.isLsl, adoptR, adoptC, adoptCL, adoptL, adopt, List.toArray, Array.toList, Nat.reduceEqDiff, Nat.reduceAdd, Nat.reduceSub, Nat.reduceMul, Nat.reduceLeDiff, Nat.reduceLT, reduceIte, reduceCtorEq, forall_const, imp_self, Int.reduceNeg, Int.reduceLT, Int.reduceLE, Int.reduceGT, Int.reduceGE, Int.reduceAdd, Int.reduceSub, Int.reduceMul, Int.reduceToNat, Int.reduceEq, ne_eq, eq_self]
                  exact ⟨_, rfl, rfl⟩
          · rw [if_neg hle2] at hcell
            have ht := hI.no h hcell
            have x2 : ((q2.length : Nat) : Int) < g := by omega
            right
            cases b <;>
            · simp only [st15, cond_true, cond_false]
              simp only [st15, lp15_0, subC, atC, Tryd.f15, an15, g0, c1, c2, w1, x1, x2, bytesOf_map, sC_nil, sC_zero, sC_succ, T3, T4, T5, T9, T22, T23, T26, T84, T94, EL, e_finWf, e_finWt, e_finMN, e_finMX, retM, meltV, tupV, D.asBox, D.row1, D.freeR, D.freeO, List.replicate_succ, stepD, accs, accP, accW, simpleOp, isAl, isExt, flipD, D.fresh1, D.row, D.plain, D.plain.plainL, St.close, St.close1, St.borrow, retV, resV, resL, outCL, outC, outL, outD, wantedV, opV, An.mid, thawV, St.settle, D.plainU, prune, envOf, get, put, eval, evalT, nz, argsV, capsV, ofV, binV, binV.aggV, unV, intV, eqOp, isConst, natV, optV, loadV, loadC, storeV, St.at_, partV, partTy, indexAddrV, fieldAddrV, sliceV, sliceV.rowSl, sliceV.strSl, bounds, cutP, builtinV, lenV, maxL, maxV, appendV, St.elems, roomy, rowOf, rowS, isStr, esz, tdOf, convV, buildV, fillV, partsV, okParts, fillL, D.whole, D.demoteC, D.demote, demoteL, D.global, D.flat, D.leaf, D.cells, TI.agg, TD.rowish, callOpV, moveL, CC, keepB, St.borrowL, St.borrow, D.isLsl, adoptR, adoptC, adoptCL, adoptL, adopt, List.toArray, Array.toList, Nat.reduceEqDiff, Nat.reduceAdd, Nat.reduceSub, Nat.reduceMul, Nat.reduceLeDiff, Nat.reduceLT, reduceIte, reduceCtorEq, forall_const, imp_self, Int.reduceNeg, Int.reduceLT, Int.reduceLE, Int.reduceGT, Int.reduceGE, Int.reduceAdd, Int.reduceSub, Int.reduceMul, Int.reduceToNat, Int.reduceEq, ne_eq, eq_self]
              exact ⟨_, _, rfl, by simp, _, _, _, rfl, .inr ⟨rfl, ht, rfl, rfl⟩⟩
  · right
    have e : out.length = n := by omega
    have g0 : ¬ (out.length : Int) < n := by omega
    cases b
    · simp only [st15, cond_true, cond_false]
      simp only [st15, lp15_0, subC, atC, Tryd.f15, an15, g0, T3, T4, T5, T9, T22, T23, T26, T84, T94, EL, e_finWf, e_finWt, e_finMN, e_finMX, retM, meltV, tupV, D.asBox, D.row1, D.freeR, D.freeO, List.replicate_succ, stepD, accs, accP, accW, simpleOp, isAl, isExt, flipD, D.fresh1, D.row, D.plain, D.plain.plainL, St.close, St.close1, St.borrow, retV, resV, resL, outCL, outC, outL, outD, wantedV, opV, An.mid, thawV, St.settle, D.plainU, prune, envOf, get, put, eval, evalT, nz, argsV, capsV, ofV, binV, binV.aggV, unV, intV, eqOp, isConst, natV, optV, loadV, loadC, storeV, setC, St.at_, partV, partTy, indexAddrV, fieldAddrV, sliceV, sliceV.rowSl, sliceV.strSl, bounds, cutP, builtinV, lenV, maxL, maxV, appendV, St.elems, roomy, rowOf, rowS, isStr, esz, tdOf, convV, buildV, fillV, partsV, okParts, fillL, D.whole, D.demoteC, D.demote, demoteL, D.global, D.flat, D.leaf, D.cells, TI.agg, TD.rowish, callOpV, moveL, CC, keepB, St.borrowL, St.borrow, D.isLsl, adoptR, adoptC, adoptCL, adoptL, adopt, List.toArray, Array.toList, Nat.reduceEqDiff, Nat.reduceAdd, Nat.reduceSub, Nat.reduceMul, Nat.reduceLeDiff, Nat.reduceLT, reduceIte, reduceCtorEq, forall_const, imp_self, Int.reduceNeg, Int.reduceLT, Int.reduceLE, Int.reduceGT, Int.reduceGE, Int.reduceAdd, Int.reduceSub, Int.reduceMul, Int.reduceToNat, Int.reduceEq, ne_eq, eq_self]
      exact ⟨_, _, rfl, by simp, _, _, _, rfl, .inl ⟨rfl, q, out, false, hI, e, hb, rfl, rfl, rfl, rfl⟩⟩
    · simp only [st15, cond_true, cond_false]
      simp only [st15, lp15_0, subC, atC, Tryd.f15, an15, g0, T3, T4, T5, T9, T22, T23, T26, T84, T94, EL, e_finWf, e_finWt, e_finMN, e_finMX, retM, meltV, tupV, D.asBox, D.row1, D.freeR, D.freeO, List.replicate_succ, stepD, accs, accP, accW, simpleOp, isAl, isExt, flipD, D.fresh1, D.row, D.plain, D.plain.plainL, St.close, St.close1, St.borrow, retV, resV, resL, outCL, outC, outL, outD, wantedV, opV, An.mid, thawV, St.settle, D.plainU, prune, envOf, get, put, eval, evalT, nz, argsV, capsV, ofV, binV, binV.aggV, unV, intV, eqOp, isConst, natV, optV, loadV, loadC, storeV, setC, St.at_, partV, partTy, indexAddrV, fieldAddrV, sliceV, sliceV.rowSl, sliceV.strSl, bounds, cutP, builtinV, lenV, maxL, maxV, appendV, St.elems, roomy, rowOf, rowS, isStr, esz, tdOf, convV, buildV, fillV, partsV, okParts, fillL, D.whole, D.demoteC, D.demote, demoteL, D.global, D.flat, D.leaf, D.cells, TI.agg, TD.rowish, callOpV, moveL, CC, keepB, St.borrowL, St.borrow, D.isLsl, adoptR, adoptC, adoptCL, adoptL, adopt, List.toArray, Array.toList, Nat.reduceEqDiff, Nat.reduceAdd, Nat.reduceSub, Nat.reduceMul, Nat.reduceLeDiff, Nat.reduceLT, reduceIte, reduceCtorEq, forall_const, imp_self, Int.reduceNeg, Int.reduceLT, Int.reduceLE, Int.reduceGT, Int.reduceGE, Int.reduceAdd, Int.reduceSub, Int.reduceMul, Int.reduceToNat, Int.reduceEq, ne_eq, eq_self]
      exact ⟨_, _, rfl, by simp, _, _, _, rfl, .inl ⟨rfl, q, out, true, hI, e, hb, rfl, rfl, rfl, rfl⟩⟩

end Go.Proofs.YtfkhijjabkhmmaaDoor.V
