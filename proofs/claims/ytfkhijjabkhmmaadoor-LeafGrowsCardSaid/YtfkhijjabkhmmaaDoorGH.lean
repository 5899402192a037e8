/-
Layer 8: sure, LeafBack.
-/
import Derived.Test.YtfkhijjabkhmmaaDoorGG
namespace Go.Proofs.YtfkhijjabkhmmaaDoor.V
open Go Go.RowKit
set_option linter.unusedSimpArgs false
set_option linter.unusedVariables false

/-! warren/warrenlaw08.LeafBack -/
def an4 : An := ⟨fun | 12 => some [3, 4, 6, 8, 9] | _ => .none, fun _ => 0, fun _ => false, fun _ => .none⟩
noncomputable def fi4 : FI := ⟨1, 120, Tryd.f4.body.getD .skip, Tryd.f4.results.toList, an4, false, false, false⟩
theorem ok4 : FnOk Tryd.prog 4 fi4 := ⟨⟨Tryd.f4, Tryd.func4, by kernel_rfl, rfl, rfl, rfl⟩, by decide, by kernel_rfl, fun h => by cases h⟩
noncomputable def lp4_0 : Code := subC [1, 1, 1, 1, 1, 1, 1, 1, 0, 1, 0, 0] (Tryd.f4.body.getD .skip)   -- head 12 keep [3, 4, 6, 8, 9]

variable {C : Callees}

theorem num1 (hC : Known08 C) (B : Hp) : C 16 [.iface 85 (.int .i64 1)] B = some (.int .i64 1, B) := hC.num 1 B
theorem num3 (hC : Known08 C) (B : Hp) : C 16 [.iface 85 (.int .i64 3)] B = some (.int .i64 3, B) := hC.num 3 B
theorem num5 (hC : Known08 C) (B : Hp) : C 16 [.iface 85 (.int .i64 5)] B = some (.int .i64 5, B) := hC.num 5 B

theorem enc_a : encB [⟨[97], [120, 121], 2, 0⟩] = [1, 1, 97, 2, 120, 121] := by
  unfold encB flatC
  simp only [List.flatMap_cons, List.flatMap_nil]
  unfold oneC lastB
  simp only [List.length_cons, List.length_nil]
  rw [vputS_small (by decide), vputS_small (by decide)]; rfl
theorem vone {n : Nat} (h : n < 128) : (vputS n).length = 1 := by rw [vputS_small h]; rfl

set_option maxRecDepth 20000 in
set_option maxHeartbeats 2000000 in
theorem run10 (hC : Known08 C) : runV T C fi10 [] [] = some (.bool true, []) := by
  rw [e_run _ _ _ rfl]
  have hL := hC.toLib08E
  have ee : encE8 [⟨[97], [120, 121], 2, 0⟩] = 0 := by
    unfold encE8
    rw [enc_a]; decide
  have c1 : C 11 [.vec 4 [.agg [.str [97], .str [120, 121], .int .i64 2, .int .i64 0]] .none] [] = some (.tuple [.vec 1 [.int .u8 1, .int .u8 1, .int .u8 97, .int .u8 2, .int .u8 120, .int .u8 121] .fresh, .nili], []) := by
    have := c11 hL.toLib08C [⟨[97], [120, 121], 2, 0⟩] (by decide) (fun c hc => by rw [List.mem_singleton] at hc; subst hc; decide) []
    unfold encV8 at this
    rw [ee, if_pos rfl, enc_a, errD_zero] at this
    exact this
  have ok1 : ∀ c, c ∈ [(⟨[97], [120, 121], 2, 0⟩ : Ce)] → okC c = true := fun c hc => by rw [List.mem_singleton] at hc; subst hc; decide
  have c2 : C 14 [.vec 1 [.int .u8 1, .int .u8 1, .int .u8 97, .int .u8 2, .int .u8 120, .int .u8 121] .none] [] = some (.tuple [.vec 4 [.agg [.str [97], .str [120, 121], .int .i64 2, .int .i64 0]] .fresh, .nili], []) := by
    have := c14 hL.toLib08D (encB [⟨[97], [120, 121], 2, 0⟩]) (by rw [enc_a]; decide)
    rw [decC_enc (by decide) ok1 (by decide) (by rw [enc_a]; decide), enc_a] at this
    exact this
  have c3 : C 11 [.vec 4 [.agg [.str [], .str [], .int .i64 0, .int .i64 0]] .none] [] = some (.tuple [.vec 1 [] .fresh, .iface 85 (.int .i64 1)], []) := by
    have := c11 hL.toLib08C [⟨[], [], 0, 0⟩] (by decide) (fun c hc => by rw [List.mem_singleton] at hc; subst hc; decide) []
    have e : encE8 [⟨[], [], 0, 0⟩] = 1 := by decide
    unfold encV8 at this
    rw [e, if_neg (by decide), errD_pos (by decide)] at this
    exact this
  have hs : sortK (kyS [⟨[97], [120, 121], 2, 0⟩]) := by
    intro i j hij hj
    simp at hj; omega
  have c4 : C 20 [.vec 4 [.agg [.str [97], .str [120, 121], .int .i64 2, .int .i64 0]] .none, .str [98]] [] = some (.tuple [.int .i64 1, .bool false], []) := by
    obtain ⟨n, h1, h2, h3, h4⟩ := run20 hL.toLib08B [⟨[97], [120, 121], 2, 0⟩] [98] (by decide) hs []
    have : n = 1 := by
      match n, h1, h2, h3 with
      | 0, _, _, h3 => exact absurd (h3 0 (by decide) (by decide)) (by decide)
      | 1, _, _, _ => rfl
      | n + 2, h1, _, _ => simp at h1
    subst this
    exact h4
  have c5 : C 18 [.str [97], .int .i64 100] [] = some (.int .i64 5, []) := by
    have := c18_8 hL.toLib08A [97] 100 (by decide) (by decide) []
    have e : sizeC [97] ((100 : Nat) : Int) = 5 := by
      unfold sizeC
      rw [vone (by decide), vone (by decide)]; decide
    rw [e] at this
    exact this
  have c6 : C 18 [.str [97], .int .i64 2] [] = some (.int .i64 5, []) := by
    have := c18_8 hL.toLib08A [97] 2 (by decide) (by decide) []
    have e : sizeC [97] ((2 : Nat) : Int) = 5 := by
      unfold sizeC
      rw [vone (by decide), vone (by decide)]; decide
    rw [e] at this
    exact this
  have n1 := num1 hC
  have y1 : bytesOf [.int .u8 1, .int .u8 1, .int .u8 97, .int .u8 2, .int .u8 120, .int .u8 121] = some [1, 1, 97, 2, 120, 121] := by kernel_rfl
  have y2 : strV .eql [1, 1, 97, 2, 120, 121] [1, 1, 97, 2, 120, 121] = some (.bool true) := by kernel_rfl
  have y3 : strV .eql [120, 121] [120, 121] = some (.bool true) := by kernel_rfl
  simp only [fi10, Tryd.f10, an10, nlit8, c1, c2, c3, c4, c5, c6, n1, y1, y2, y3, T3, T4, T5, T9, T23, T28, T31, T45, EL, e_finWf, e_finWt, e_finMN, e_finMX, retM, meltV, tupV, D.asBox, D.row1, D.freeR, D.freeO, List.replicate_succ, stepD, accs, accP, accW, simpleOp, isAl, isExt, flipD, D.fresh1, D.row, D.plain, D.plain.plainL, St.close, St.close1, St.borrow, retV, resV, resL, outCL, outC, outL, outD, wantedV, opV, An.mid, thawV, St.settle, D.plainU, prune, envOf, get, put, eval, evalT, nz, argsV, capsV, ofV, binV, binV.aggV, unV, intV, eqOp, isConst, natV, optV, loadV, loadC, storeV, setC, St.at_, partV, partTy, indexAddrV, fieldAddrV, sliceV, sliceV.rowSl, sliceV.strSl, bounds, cutP, builtinV, lenV, maxL, maxV, appendV, St.elems, roomy, rowOf, rowS, isStr, esz, tdOf, convV, buildV, fillV, partsV, okParts, fillL, D.whole, D.demoteC, D.demote, demoteL, D.global, D.flat, D.leaf, D.cells, TI.agg, TD.rowish, callOpV, moveL, CC, keepB, St.borrowL, St.borrow, D.isLsl, adoptR, adoptC, adoptCL, adoptL, adopt, List.toArray, Array.toList, Nat.reduceEqDiff, Nat.reduceAdd, Nat.reduceSub, Nat.reduceMul, Nat.reduceLeDiff, Nat.reduceLT, reduceIte, reduceCtorEq, forall_const, imp_self, Int.reduceNeg, Int.reduceLT, Int.reduceLE, Int.reduceGT, Int.reduceGE, Int.reduceAdd, Int.reduceSub, Int.reduceMul, Int.reduceToNat, Int.reduceEq, ne_eq, eq_self]
  trace_state
  done
theorem c10 (hC : Known08 C) : C 10 [] [] = some (.bool true, []) := hC.f10 _ _ _ (run10 hC)

/-! ### LeafBack -/
theorem at_uniq {l : List Ce} (hs : sortK (kyS l)) {k i : Nat} (hk : k < l.length) (h1 : i ≤ l.length) (h2 : ∀ a, a < i → lt ((kyS l).getD a []) ((l.getD k default).k) = true) (h3 : ∀ a, i ≤ a → a < l.length → lt ((kyS l).getD a []) ((l.getD k default).k) = false) : i = k := by
  have hkl : (kyS l).length = l.length := by simp
  rw [ky_get hk] at h2 h3
  rcases Nat.lt_trichotomy i k with h | h | h
  · have := h3 i (Nat.le_refl _) (by omega)
    rw [hs i k h (by omega)] at this; cases this
  · exact h
  · have := h2 k h
    rw [lt_irrefl] at this; cases this

def st4 (l : List Ce) (k : Nat) : St := ⟨[(3, ceR l (.own 0)), (4, .vec 1 ((encB l).map byteD) (.own 1)), (6, ceR l (.own 2)), (8, .int .i64 (1 + (flatC (l.take k)).length : Nat)), (9, .int .i64 (k : Nat))], [], [true, true, true], []⟩
set_option maxRecDepth 20000 in
set_option maxHeartbeats 2000000 in
theorem loop4 (hC : Known08 C) (l : List Ce) (hl : l.length ≤ 100) (hok : ∀ c, c ∈ l → okC c = true) (hs : sortK (kyS l)) (st : St) (hst : an4.at_ (some 12) st = st4 l 0) :
    ∃ x st', loopC T an4 C lp4_0 st = some (x, st') ∧ x = .exit 0 ∧ ∃ ρ, st' = ⟨ρ, [], [true, true, true], []⟩ ∧ get ρ 4 = .vec 1 ((encB l).map byteD) (.own 1) ∧ get ρ 8 = .int .i64 (1 + (flatC l).length : Nat) := by
  refine loop_rule (st4 l) (fun k => k ≤ l.length) (fun k => l.length - k) _ ?_ 0 st hst (Nat.zero_le _)
  intro k hk
  rcases Nat.lt_or_ge k l.length with h | h
  · have g0 : (k : Int) < l.length := by omega
    have g1 := pnat k
    have w1 : IntKind.i64.wrap ((k : Int) + 1) = ((k + 1 : Nat) : Int) := by rw [wrapI (by omega) (by omega)]; rfl
    have e1 := ce_get h
    have hL := hC.toLib08E
    have hm := hok _ (getD_mem h)
    have hb := (okC_iff _).1 hm
    have c1 : C 20 [.vec 4 (l.map ceD) .none, .str (l.getD k default).k] [] = some (.tuple [.int .i64 (k : Nat), .bool true], []) := by
      obtain ⟨i, h1, h2, h3, h4⟩ := run20 hL.toLib08B l (l.getD k default).k (by omega) hs []
      obtain rfl := at_uniq hs h h1 h2 h3
      rw [h4, decide_eq_true h, ky_get h]
      simp
    have hg : (l.getD k default).g = (((l.getD k default).g.toNat : Nat) : Int) := by omega
    have c2 : C 18 [.str (l.getD k default).k, .int .i64 (l.getD k default).g] [] = some (.int .i64 (sizeC (l.getD k default).k (l.getD k default).g : Nat), []) := by
      have := c18_8 hL.toLib08A (l.getD k default).k (l.getD k default).g.toNat (by omega) (by omega) []
      rw [← hg] at this
      exact this
    have hsz := size_le hm
    have hfl := flat_le (l.take k) (fun c hc => hok c (List.mem_of_mem_take hc))
    have htl : (l.take k).length ≤ 100 := by rw [List.length_take]; omega
    have hft : (flatC (l.take (k + 1))).length = (flatC (l.take k)).length + sizeC (l.getD k default).k (l.getD k default).g := by
      rw [flat_take h, List.length_append, one_len hm]
    have w2 : IntKind.i64.wrap (((1 + (flatC (l.take k)).length : Nat) : Int) + (sizeC (l.getD k default).k (l.getD k default).g : Nat)) = ((1 + (flatC (l.take (k + 1))).length : Nat) : Int) := by rw [hft, wrapI (by omega) (by omega)]; omega
    left
    refine ⟨k + 1, ?_, by omega, by omega⟩
    simp only [st4]
    generalize 1 + (flatC (l.take (k + 1))).length = n2 at w2
    generalize 1 + (flatC (l.take k)).length = n1 at w2
    simp only [st4, lp4_0, subC, atC, Tryd.f4, an4, g0, g1, w1, w2, e1, c1, c2, Int.toNat_natCast, T3, T4, T5, T9, T22, T23, T26, T28, T31, T45, EL, e_finWf, e_finWt, e_finMN, e_finMX, retM, meltV, tupV, D.asBox, D.row1, D.freeR, D.freeO, List.replicate_succ, stepD, accs, accP, accW, simpleOp, isAl, isExt, flipD, D.fresh1, D.row, D.plain, D.plain.plainL, St.close, St.close1, St.borrow, retV, resV, resL, outCL, outC, outL, outD, wantedV, opV, An.mid, thawV, St.settle, D.plainU, prune, envOf, get, put, eval, evalT, nz, argsV, capsV, ofV, binV, binV.aggV, unV, intV, eqOp, isConst, natV, optV, loadV, loadC, storeV, setC, St.at_, partV, partTy, indexAddrV, fieldAddrV, sliceV, sliceV.rowSl, sliceV.strSl, bounds, cutP, builtinV, lenV, maxL, maxV, appendV, St.elems, roomy, rowOf, rowS, isStr, esz, tdOf, convV, buildV, fillV, partsV, okParts, fillL, D.whole, D.demoteC, D.demote, demoteL, D.global, D.flat, D.leaf, D.cells, TI.agg, TD.rowish, callOpV, moveL, CC, keepB, St.borrowL, St.borrow, D.isLsl, adoptR, adoptC, adoptCL, adoptL, adopt, List.toArray, Array.toList, Nat.reduceEqDiff, Nat.reduceAdd, Nat.reduceSub, Nat.reduceMul, Nat.reduceLeDiff, Nat.reduceLT, reduceIte, reduceCtorEq, forall_const, imp_self, Int.reduceNeg, Int.reduceLT, Int.reduceLE, Int.reduceGT, Int.reduceGE, Int.reduceAdd, Int.reduceSub, Int.reduceMul, Int.reduceToNat, Int.reduceEq, ne_eq, eq_self]
    exact ⟨_, rfl, rfl⟩
  · right
    obtain rfl : k = l.length := by omega
    have g0 : ¬ ((l.length : Nat) : Int) < l.length := by omega
    have e1 : l.take l.length = l := List.take_length
    simp only [st4, e1]
    simp only [st4, lp4_0, subC, atC, Tryd.f4, an4, g0, T3, T4, T5, T9, T22, T23, T26, T28, T31, T45, EL, e_finWf, e_finWt, e_finMN, e_finMX, retM, meltV, tupV, D.asBox, D.row1, D.freeR, D.freeO, List.replicate_succ, stepD, accs, accP, accW, simpleOp, isAl, isExt, flipD, D.fresh1, D.row, D.plain, D.plain.plainL, St.close, St.close1, St.borrow, retV, resV, resL, outCL, outC, outL, outD, wantedV, opV, An.mid, thawV, St.settle, D.plainU, prune, envOf, get, put, eval, evalT, nz, argsV, capsV, ofV, binV, binV.aggV, unV, intV, eqOp, isConst, natV, optV, loadV, loadC, storeV, setC, St.at_, partV, partTy, indexAddrV, fieldAddrV, sliceV, sliceV.rowSl, sliceV.strSl, bounds, cutP, builtinV, lenV, maxL, maxV, appendV, St.elems, roomy, rowOf, rowS, isStr, esz, tdOf, convV, buildV, fillV, partsV, okParts, fillL, D.whole, D.demoteC, D.demote, demoteL, D.global, D.flat, D.leaf, D.cells, TI.agg, TD.rowish, callOpV, moveL, CC, keepB, St.borrowL, St.borrow, D.isLsl, adoptR, adoptC, adoptCL, adoptL, adopt, List.toArray, Array.toList, Nat.reduceEqDiff, Nat.reduceAdd, Nat.reduceSub, Nat.reduceMul, Nat.reduceLeDiff, Nat.reduceLT, reduceIte, reduceCtorEq, forall_const, imp_self, Int.reduceNeg, Int.reduceLT, Int.reduceLE, Int.reduceGT, Int.reduceGE, Int.reduceAdd, Int.reduceSub, Int.reduceMul, Int.reduceToNat, Int.reduceEq, ne_eq, eq_self]
    exact ⟨_, _, rfl, by simp, rfl, _, rfl, rfl, rfl⟩

set_option maxRecDepth 20000 in
set_option maxHeartbeats 4000000 in
theorem run4 (hC : Known08 C) (l : List Ce) (hl : l.length * 48 ≤ 140737488351232) (hv : LongV l) : runV T C fi4 [ceR l .none] [] = some (.bool true, []) := by
  rw [e_run _ _ _ rfl]
  have c0 := c10 hC
  have hL := hC.toLib08E
  have c1 := c12 hL.toLib08A l hl []
  by_cases h1 : l.length ≤ 100
  · have g1 : ¬ (l.length : Int) > 100 := by omega
    have c2 := c11 hL.toLib08C l (by omega) hv []
    unfold encV8 at c2
    by_cases he : encE8 l = 0
    · rw [he, if_pos rfl, errD_zero] at c2
      have hall : allB l.length (okAt l) = true ∧ allB l.length (aP l) = true ∧ (encB l).length ≤ 504 := by
        unfold encE8 at he
        split at he
        · split at he
          · split at he
            · rename_i h1 h2 h3
              exact ⟨h1, h2, h3⟩
            · cases he
          · cases he
        · cases he
      obtain ⟨ha, hb, hlen⟩ := hall
      have hok := ok_all.1 ha
      have hasc : ascL .none l = true := by rw [asc_none]; exact hb
      have hs := (asc_sort l .none hasc).1
      have c3 := c14 hL.toLib08D (encB l) (by omega)
      rw [decC_enc (by omega) hok hasc hlen] at c3
      simp only [fkC, fkG, errD_zero] at c3
      have c4 := c17 hL.toLib08A l (by omega) []
      have lp := loop4 hC l h1 hok hs
      have c5 := c14 hL.toLib08D ((encB l).take ((encB l).length - 1)) (by rw [List.length_take]; omega)
      rw [decC_cut (by omega) hok] at c5
      have c6 := c14 hL.toLib08D (encB l ++ [0]) (by rw [List.length_append]; simp; omega)
      rw [decC_more (by omega) hok hasc] at c6
      simp only [fkC, fkG, errD_pos (by decide : (3 : Nat) ≠ 0), nlit8] at c5 c6
      have q3 := num3 hC []
      have hn : (encB l).length = 1 + (flatC l).length := by
        unfold encB
        rw [List.length_append, vone (by omega)]
      have hpos : 0 < (encB l).length := by omega
      rw [← hn] at lp
      generalize hP : encB l = P at c2 c3 c5 c6 hn hlen hpos lp
      simp only [fi4, Tryd.f4, an4, c0, c1, c2, c3, c4, g1, nlit8, T3, T4, T5, T9, T22, T23, T26, T28, T31, T45, EL, e_finWf, e_finWt, e_finMN, e_finMX, retM, meltV, tupV, D.asBox, D.row1, D.freeR, D.freeO, List.replicate_succ, stepD, accs, accP, accW, simpleOp, isAl, isExt, flipD, D.fresh1, D.row, D.plain, D.plain.plainL, St.close, St.close1, St.borrow, retV, resV, resL, outCL, outC, outL, outD, wantedV, opV, An.mid, thawV, St.settle, D.plainU, prune, envOf, get, put, eval, evalT, nz, argsV, capsV, ofV, binV, binV.aggV, unV, intV, eqOp, isConst, natV, optV, loadV, loadC, storeV, setC, St.at_, partV, partTy, indexAddrV, fieldAddrV, sliceV, sliceV.rowSl, sliceV.strSl, bounds, cutP, builtinV, lenV, maxL, maxV, appendV, St.elems, roomy, rowOf, rowS, isStr, esz, tdOf, convV, buildV, fillV, partsV, okParts, fillL, D.whole, D.demoteC, D.demote, demoteL, D.global, D.flat, D.leaf, D.cells, TI.agg, TD.rowish, callOpV, moveL, CC, keepB, St.borrowL, St.borrow, D.isLsl, adoptR, adoptC, adoptCL, adoptL, adopt, List.toArray, Array.toList, Nat.reduceEqDiff, Nat.reduceAdd, Nat.reduceSub, Nat.reduceMul, Nat.reduceLeDiff, Nat.reduceLT, reduceIte, reduceCtorEq, forall_const, imp_self, Int.reduceNeg, Int.reduceLT, Int.reduceLE, Int.reduceGT, Int.reduceGE, Int.reduceAdd, Int.reduceSub, Int.reduceMul, Int.reduceToNat, Int.reduceEq, ne_eq, eq_self]
      refine' in_loop (c' := lp4_0) (fin T _ _ _) ?h rfl ?q
      case h =>
        refine lp _ ?_
        simp only [an4, ren_map, toks_map, boxes_map, st4, List.take_zero, flatC, List.flatMap_nil, List.length_nil, pz0, An.at_, tidyV, tidyW, tidyB, tidyT, sift, envBoxes, envToks, conToks, D.toks, D.tok1, toksL, D.boxes, D.box1, boxesL, memN, posN, renE, D.ren, D.ren1, renL, renB, St.content, St.boxOk, St.tokOk, trues, T3, T4, T5, T9, T22, T23, T26, T28, T31, T45, EL, e_finWf, e_finWt, e_finMN, e_finMX, retM, meltV, tupV, D.asBox, D.row1, D.freeR, D.freeO, List.replicate_succ, stepD, accs, accP, accW, simpleOp, isAl, isExt, flipD, D.fresh1, D.row, D.plain, D.plain.plainL, St.close, St.close1, St.borrow, retV, resV, resL, outCL, outC, outL, outD, wantedV, opV, An.mid, thawV, St.settle, D.plainU, prune, envOf, get, put, eval, evalT, nz, argsV, capsV, ofV, binV, binV.aggV, unV, intV, eqOp, isConst, natV, optV, loadV, loadC, storeV, setC, St.at_, partV, partTy, indexAddrV, fieldAddrV, sliceV, sliceV.rowSl, sliceV.strSl, bounds, cutP, builtinV, lenV, maxL, maxV, appendV, St.elems, roomy, rowOf, rowS, isStr, esz, tdOf, convV, buildV, fillV, partsV, okParts, fillL, D.whole, D.demoteC, D.demote, demoteL, D.global, D.flat, D.leaf, D.cells, TI.agg, TD.rowish, callOpV, moveL, CC, keepB, St.borrowL, St.borrow, D.isLsl, adoptR, adoptC, adoptCL, adoptL, adopt, List.toArray, Array.toList, Nat.reduceEqDiff, Nat.reduceAdd, Nat.reduceSub, Nat.reduceMul, Nat.reduceLeDiff, Nat.reduceLT, reduceIte, reduceCtorEq, forall_const, imp_self, Int.reduceNeg, Int.reduceLT, Int.reduceLE, Int.reduceGT, Int.reduceGE, Int.reduceAdd, Int.reduceSub, Int.reduceMul, Int.reduceToNat, Int.reduceEq, ne_eq, eq_self]
        rw [hP]; rfl
      rintro x st' ⟨rfl, ρ, rfl, r4, r8⟩
      have x1 : IntKind.i64.wrap ((P.length : Int) - 1) = ((P.length - 1 : Nat) : Int) := by rw [wrapI (by omega) (by omega)]; omega
      have x3 := pnat (P.length - 1)
      have x4 : P.length - 1 ≤ P.length := by omega
      have x5 : (P.length : Int) ≤ 504 := by omega
      have mx : (if ((P.length - 1 : Nat) : Int) > 0 then ((P.length - 1 : Nat) : Int) else 0) = ((P.length - 1 : Nat) : Int) := by split <;> omega
      have r1 : roomy P.length 1 = true := by simp only [roomy, nble, decide_eq_true_eq]; omega
      have r2 : roomy (P.length + 1) 1 = true := by simp only [roomy, nble, decide_eq_true_eq]; omega
      have a1 : P.map byteD ++ [D.int .u8 0] = (P ++ [0]).map byteD := by simp [byteD]
      generalize P ++ [0] = P2 at a1 c6
      simp only [r4, r8, mx, x1, x3, x4, x5, r1, r2, a1, c5, c6, q3, c0, nlit8, Int.toNat_natCast, T3, T4, T5, T9, T22, T23, T26, T28, T31, T45, EL, e_finWf, e_finWt, e_finMN, e_finMX, retM, meltV, tupV, D.asBox, D.row1, D.freeR, D.freeO, List.replicate_succ, stepD, accs, accP, accW, simpleOp, isAl, isExt, flipD, D.fresh1, D.row, D.plain, D.plain.plainL, St.close, St.close1, St.borrow, retV, resV, resL, outCL, outC, outL, outD, wantedV, opV, An.mid, thawV, St.settle, D.plainU, prune, envOf, get, put, eval, evalT, nz, argsV, capsV, ofV, binV, binV.aggV, unV, intV, eqOp, isConst, natV, optV, loadV, loadC, storeV, setC, St.at_, partV, partTy, indexAddrV, fieldAddrV, sliceV, sliceV.rowSl, sliceV.strSl, bounds, cutP, builtinV, lenV, maxL, maxV, appendV, St.elems, rowOf, rowS, isStr, esz, tdOf, convV, buildV, fillV, partsV, okParts, fillL, D.whole, D.demoteC, D.demote, demoteL, D.global, D.flat, D.leaf, D.cells, TI.agg, TD.rowish, callOpV, moveL, CC, keepB, St.borrowL, St.borrow, D.isLsl, adoptR, adoptC, adoptCL, adoptL, adopt, List.toArray, Array.toList, Nat.reduceEqDiff, Nat.reduceAdd, Nat.reduceSub, Nat.reduceMul, Nat.reduceLeDiff, Nat.reduceLT, reduceIte, reduceCtorEq, forall_const, imp_self, Int.reduceNeg, Int.reduceLT, Int.reduceLE, Int.reduceGT, Int.reduceGE, Int.reduceAdd, Int.reduceSub, Int.reduceMul, Int.reduceToNat, Int.reduceEq, ne_eq, eq_self]
      done
    · rw [if_neg he, errD_pos he] at c2
      simp only [fi4, Tryd.f4, an4, c0, c1, c2, g1, nlit8, T3, T4, T5, T9, T22, T23, T26, T28, T31, T45, EL, e_finWf, e_finWt, e_finMN, e_finMX, retM, meltV, tupV, D.asBox, D.row1, D.freeR, D.freeO, List.replicate_succ, stepD, accs, accP, accW, simpleOp, isAl, isExt, flipD, D.fresh1, D.row, D.plain, D.plain.plainL, St.close, St.close1, St.borrow, retV, resV, resL, outCL, outC, outL, outD, wantedV, opV, An.mid, thawV, St.settle, D.plainU, prune, envOf, get, put, eval, evalT, nz, argsV, capsV, ofV, binV, binV.aggV, unV, intV, eqOp, isConst, natV, optV, loadV, loadC, storeV, setC, St.at_, partV, partTy, indexAddrV, fieldAddrV, sliceV, sliceV.rowSl, sliceV.strSl, bounds, cutP, builtinV, lenV, maxL, maxV, appendV, St.elems, roomy, rowOf, rowS, isStr, esz, tdOf, convV, buildV, fillV, partsV, okParts, fillL, D.whole, D.demoteC, D.demote, demoteL, D.global, D.flat, D.leaf, D.cells, TI.agg, TD.rowish, callOpV, moveL, CC, keepB, St.borrowL, St.borrow, D.isLsl, adoptR, adoptC, adoptCL, adoptL, adopt, List.toArray, Array.toList, Nat.reduceEqDiff, Nat.reduceAdd, Nat.reduceSub, Nat.reduceMul, Nat.reduceLeDiff, Nat.reduceLT, reduceIte, reduceCtorEq, forall_const, imp_self, Int.reduceNeg, Int.reduceLT, Int.reduceLE, Int.reduceGT, Int.reduceGE, Int.reduceAdd, Int.reduceSub, Int.reduceMul, Int.reduceToNat, Int.reduceEq, ne_eq, eq_self]
      done
  · have g1 : (l.length : Int) > 100 := by omega
    simp only [fi4, Tryd.f4, an4, c0, c1, g1, T3, T4, T5, T9, T22, T23, T26, T28, T31, T45, EL, e_finWf, e_finWt, e_finMN, e_finMX, retM, meltV, tupV, D.asBox, D.row1, D.freeR, D.freeO, List.replicate_succ, stepD, accs, accP, accW, simpleOp, isAl, isExt, flipD, D.fresh1, D.row, D.plain, D.plain.plainL, St.close, St.close1, St.borrow, retV, resV, resL, outCL, outC, outL, outD, wantedV, opV, An.mid, thawV, St.settle, D.plainU, prune, envOf, get, put, eval, evalT, nz, argsV, capsV, ofV, binV, binV.aggV, unV, intV, eqOp, isConst, natV, optV, loadV, loadC, storeV, setC, St.at_, partV, partTy, indexAddrV, fieldAddrV, sliceV, sliceV.rowSl, sliceV.strSl, bounds, cutP, builtinV, lenV, maxL, maxV, appendV, St.elems, roomy, rowOf, rowS, isStr, esz, tdOf, convV, buildV, fillV, partsV, okParts, fillL, D.whole, D.demoteC, D.demote, demoteL, D.global, D.flat, D.leaf, D.cells, TI.agg, TD.rowish, callOpV, moveL, CC, keepB, St.borrowL, St.borrow, D.isLsl, adoptR, adoptC, adoptCL, adoptL, adopt, List.toArray, Array.toList, Nat.reduceEqDiff, Nat.reduceAdd, Nat.reduceSub, Nat.reduceMul, Nat.reduceLeDiff, Nat.reduceLT, reduceIte, reduceCtorEq, forall_const, imp_self, Int.reduceNeg, Int.reduceLT, Int.reduceLE, Int.reduceGT, Int.reduceGE, Int.reduceAdd, Int.reduceSub, Int.reduceMul, Int.reduceToNat, Int.reduceEq, ne_eq, eq_self]
    done

end Go.Proofs.YtfkhijjabkhmmaaDoor.V
