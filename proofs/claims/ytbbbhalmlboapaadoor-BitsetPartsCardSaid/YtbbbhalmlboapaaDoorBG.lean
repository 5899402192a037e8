/-
Layer 17: BitsetTakes.
-/
import Derived.Test.YtbbbhalmlboapaaDoorBF
namespace Go.Proofs.YtbbbhalmlboapaaDoor.V
open Go Go.RowKit
set_option linter.unusedSimpArgs false
set_option linter.unusedVariables false

variable {C : Callees}

/-- With those of a list. -/
def addL (s : Nat → Nat) : List Nat → (Nat → Nat)
  | [] => s
  | x :: r => addL (withS s x) r
theorem addL_app (s : Nat → Nat) (x : Nat) : ∀ l, addL s (l ++ [x]) = withS (addL s l) x := by
  intro l
  induction l generalizing s with
  | nil => rfl
  | cons y l ih => exact ih _
theorem addL_w {s : Nat → Nat} : ∀ (l : List Nat), Wds s → (∀ x, x ∈ l → x < 1024) → Wds (addL s l) ∧ ∀ k, mem (addL s l) k = (mem s k || decide (k ∈ l))
  | [], hs, _ => ⟨hs, fun k => by simp [addL]⟩
  | x :: l, hs, h => by
    obtain ⟨h1, h2⟩ := addL_w l (with_w hs x (h x (by simp))) (fun y hy => h y (by simp [hy]))
    refine ⟨h1, fun k => ?_⟩
    rw [addL, h2, mem_with]
    by_cases e : k = x <;> simp [e]

def st9 (B : Hp) (s : Nat → Nat) (L : List Nat) (b : Bool) (k : Nat) : St :=
  ⟨[(7, .lptr 0 0), (11, .vec 1 (L.map intD) (bif b then .own 0 else .none)), (12, .lptr 1 0), (14, .int .i64 k)], [some (nums .u64 16 s), some (nums .u64 16 (addL (lessL s L) (L.take k)))], tk b, B⟩

set_option maxRecDepth 10000 in
set_option maxHeartbeats 2000000 in
theorem loop9 (hC : Known17 C) (B : Hp) {s : Nat → Nat} (hs : Wds s) {m : Nat} (L : List Nat) (hL : L = takL s m) (b : Bool) (st : St) (hst : an9.at_ (some 13) st = st9 B s L b 0) :
    ∃ x st', loopC T an9 C lp9_0 st = some (x, st') ∧ x = .exit 0 ∧ ∃ ρ s', st' = ⟨ρ, [some (nums .u64 16 s), some (nums .u64 16 s')], tk b, B⟩ ∧ (∀ i, i < 16 → s' i = s i) ∧ get ρ 7 = .lptr 0 0 ∧ get ρ 12 = .lptr 1 0 := by
  have hC' := hC.toLib17
  have hlt : ∀ x, x ∈ L → x < 1024 := fun x hx => takL_lt (hL ▸ hx)
  have hlen : L.length ≤ 1024 := by
    rw [hL]; unfold takL
    rw [List.length_take, lst_len]; have := cntB_le 1024 (mem s); omega
  obtain ⟨hw1, hm1⟩ := lessL_w L hs hlt
  have hget : ∀ i x, L[i]? = some x → (lst (mem s) 1024)[i]? = some x := fun i x hi => by
    rw [hL] at hi
    unfold takL at hi
    have := lt_of_get hi
    rw [List.length_take] at this
    rwa [List.getElem?_take_of_lt (by omega)] at hi
  refine loop_rule (st9 B s L b) (fun k => k ≤ L.length) (fun k => L.length - k) _ ?_ 0 st hst (Nat.zero_le _)
  intro k hk
  rcases Nat.lt_or_ge k L.length with h | h
  · left
    refine ⟨k + 1, ?_, by omega, by omega⟩
    obtain ⟨x, hx⟩ : ∃ x, L[k]? = some x := ⟨_, List.getElem?_eq_getElem h⟩
    have hx1 := hlt x (List.mem_of_getElem? hx)
    obtain ⟨_, hx2, hx3⟩ := lst_get _ _ _ _ (hget k x hx)
    have g0 : (k : Int) < L.length := by omega
    have w1 : IntKind.i64.wrap ((k : Int) + 1) = ((k + 1 : Nat) : Int) := by rw [wrapI (by omega) (by omega)]; rfl
    have n1 := nat0 k
    have g1 : (L.map intD)[k]? = some (.int .i64 (x : Nat)) := by rw [List.getElem?_map, hx]; rfl
    obtain ⟨hw2, hm2⟩ := addL_w (L.take k) hw1 (fun y hy => hlt y (List.mem_of_mem_take hy))
    have c1 := c42 hC' hs x
    rw [show hasS s (x : Int) = true by unfold hasS; rw [mayN_n hx1, Int.toNat_natCast, hx2]; rfl] at c1
    have hnin : ¬ x ∈ L.take k := fun hin => by
      obtain ⟨i, hi⟩ := List.getElem?_of_mem hin
      have hik := lt_of_get hi
      rw [List.length_take] at hik
      rw [List.getElem?_take_of_lt (by omega)] at hi
      have := lst_lt (hget i x hi) (hget k x hx) (by omega)
      omega
    have c2 := c42 hC' hw2 x
    rw [show hasS (addL (lessL s L) (L.take k)) (x : Int) = false by
      unfold hasS
      rw [mayN_n hx1, Int.toNat_natCast, hm2, hm1, hx2]
      simp [hnin, List.mem_of_getElem? hx]] at c2
    have c3 := c49 hC' x
    rw [clip_n (by omega)] at c3
    have c4 := c46 hC' hs (belo_w x)
    have c5 := c41 hC' (both_w (t := beloS x) hs)
    rw [cnt_both_belo (by omega), hx3] at c5
    have c6 := c43 hC' hw2 x
    have e : withN (addL (lessL s L) (L.take k)) x = addL (lessL s L) (L.take (k + 1)) := by
      unfold withN
      rw [if_pos (mayN_n hx1), Int.toNat_natCast, List.take_add_one, hx, Option.toList_some, addL_app]
    rw [e] at c6
    rcases Nat.eq_zero_or_pos k with hk0 | hk0
    · have g2 : ¬ (k : Int) > 0 := by omega
      cases b <;>
      (simp only [st9, lp9_0, subC, atC, Tryd.f9, an9, g0, w1, n1, g1, g2, c1, c2, c3, c4, c5, c6, AL, T3, T4, T24, T66, T67, T70, T75, T81, EL, List.replicate_succ, stepD, accs, accP, accW, simpleOp, isAl, isExt, flipD, D.fresh1, D.row, D.plain, D.plain.plainL, St.close, St.close1, St.borrow, retV, resV, resL, outCL, outC, outL, outD, wantedV, opV, An.mid, thawV, D.plainU, prune, envOf, get, put, eval, evalT, nz, argsV, capsV, ofV, binV, binV.aggV, unV, intV, eqOp, isConst, natV, optV, loadV, loadC, storeV, St.at_, partV, partTy, indexAddrV, fieldAddrV, sliceV, sliceV.rowSl, sliceV.strSl, bounds, cutP, builtinV, lenV, maxL, maxV, appendV, St.elems, roomy, rowOf, rowS, isStr, esz, tdOf, convV, buildV, fillV, partsV, okParts, fillL, D.whole, D.demoteC, D.demote, demoteL, D.global, D.flat, D.leaf, D.cells, TI.agg, TD.rowish, callOpV, moveL, CC, keepB, St.borrowL, St.borrow, D.isLsl, adoptR, adoptC, adoptCL, adoptL, adopt, List.toArray, Array.toList, Nat.reduceEqDiff, Nat.reduceAdd, Nat.reduceSub, Nat.reduceMul, Nat.reduceLeDiff, Nat.reduceLT, reduceIte, reduceCtorEq, forall_const, imp_self, Int.reduceNeg, Int.reduceLT, Int.reduceLE, Int.reduceGT, Int.reduceGE, Int.reduceAdd, Int.reduceSub, Int.reduceMul, Int.reduceToNat, Int.reduceEq, ne_eq, eq_self]
       refine ⟨_, rfl, ?_⟩
       show an9.at_ (some 13) _ = _
       simp only [an9, ren_map, toks_map, boxes_map, tk, AL, An.at_, tidyV, tidyW, tidyB, tidyT, sift, envBoxes, envToks, conToks, D.toks, D.tok1, toksL, D.boxes, D.box1, boxesL, memN, posN, renE, D.ren, D.ren1, renL, renB, St.content, St.boxOk, St.tokOk, trues, T3, T4, T24, T66, T67, T70, T75, T81, EL, List.replicate_succ, stepD, accs, accP, accW, simpleOp, isAl, isExt, flipD, D.fresh1, D.row, D.plain, D.plain.plainL, St.close, St.close1, St.borrow, retV, resV, resL, outCL, outC, outL, outD, wantedV, opV, An.mid, thawV, D.plainU, prune, envOf, get, put, eval, evalT, nz, argsV, capsV, ofV, binV, binV.aggV, unV, intV, eqOp, isConst, natV, optV, loadV, loadC, storeV, setC, St.at_, partV, partTy, indexAddrV, fieldAddrV, sliceV, sliceV.rowSl, sliceV.strSl, bounds, cutP, builtinV, lenV, maxL, maxV, appendV, St.elems, roomy, rowOf, rowS, isStr, esz, tdOf, convV, buildV, fillV, partsV, okParts, fillL, D.whole, D.demoteC, D.demote, demoteL, D.global, D.flat, D.leaf, D.cells, TI.agg, TD.rowish, callOpV, moveL, CC, keepB, St.borrowL, St.borrow, D.isLsl, adoptR, adoptC, adoptCL, adoptL, adopt, List.toArray, Array.toList, Nat.reduceEqDiff, Nat.reduceAdd, Nat.reduceSub, Nat.reduceMul, Nat.reduceLeDiff, Nat.reduceLT, reduceIte, reduceCtorEq, forall_const, imp_self, Int.reduceNeg, Int.reduceLT, Int.reduceLE, Int.reduceGT, Int.reduceGE, Int.reduceAdd, Int.reduceSub, Int.reduceMul, Int.reduceToNat, Int.reduceEq, ne_eq, eq_self])
    · have g2 : (k : Int) > 0 := by omega
      obtain ⟨y, hy⟩ : ∃ y, L[k - 1]? = some y := ⟨_, List.getElem?_eq_getElem (by omega)⟩
      have hyx := lst_lt (hget (k - 1) y hy) (hget k x hx) (by omega)
      have w2 : IntKind.i64.wrap ((k : Int) - 1) = ((k - 1 : Nat) : Int) := by rw [wrapI (by omega) (by omega)]; omega
      have n2 := nat0 (k - 1)
      have g3 : (L.map intD)[k - 1]? = some (.int .i64 (y : Nat)) := by rw [List.getElem?_map, hy]; rfl
      have g4 : ¬ (y : Int) ≥ x := by omega
      cases b <;>
      (simp only [st9, lp9_0, subC, atC, Tryd.f9, an9, g0, w1, n1, g1, g2, w2, n2, g3, g4, c1, c2, c3, c4, c5, c6, AL, T3, T4, T24, T66, T67, T70, T75, T81, EL, List.replicate_succ, stepD, accs, accP, accW, simpleOp, isAl, isExt, flipD, D.fresh1, D.row, D.plain, D.plain.plainL, St.close, St.close1, St.borrow, retV, resV, resL, outCL, outC, outL, outD, wantedV, opV, An.mid, thawV, D.plainU, prune, envOf, get, put, eval, evalT, nz, argsV, capsV, ofV, binV, binV.aggV, unV, intV, eqOp, isConst, natV, optV, loadV, loadC, storeV, St.at_, partV, partTy, indexAddrV, fieldAddrV, sliceV, sliceV.rowSl, sliceV.strSl, bounds, cutP, builtinV, lenV, maxL, maxV, appendV, St.elems, roomy, rowOf, rowS, isStr, esz, tdOf, convV, buildV, fillV, partsV, okParts, fillL, D.whole, D.demoteC, D.demote, demoteL, D.global, D.flat, D.leaf, D.cells, TI.agg, TD.rowish, callOpV, moveL, CC, keepB, St.borrowL, St.borrow, D.isLsl, adoptR, adoptC, adoptCL, adoptL, adopt, List.toArray, Array.toList, Nat.reduceEqDiff, Nat.reduceAdd, Nat.reduceSub, Nat.reduceMul, Nat.reduceLeDiff, Nat.reduceLT, reduceIte, reduceCtorEq, forall_const, imp_self, Int.reduceNeg, Int.reduceLT, Int.reduceLE, Int.reduceGT, Int.reduceGE, Int.reduceAdd, Int.reduceSub, Int.reduceMul, Int.reduceToNat, Int.reduceEq, ne_eq, eq_self]
       refine ⟨_, rfl, ?_⟩
       show an9.at_ (some 13) _ = _
       simp only [an9, ren_map, toks_map, boxes_map, tk, AL, An.at_, tidyV, tidyW, tidyB, tidyT, sift, envBoxes, envToks, conToks, D.toks, D.tok1, toksL, D.boxes, D.box1, boxesL, memN, posN, renE, D.ren, D.ren1, renL, renB, St.content, St.boxOk, St.tokOk, trues, T3, T4, T24, T66, T67, T70, T75, T81, EL, List.replicate_succ, stepD, accs, accP, accW, simpleOp, isAl, isExt, flipD, D.fresh1, D.row, D.plain, D.plain.plainL, St.close, St.close1, St.borrow, retV, resV, resL, outCL, outC, outL, outD, wantedV, opV, An.mid, thawV, D.plainU, prune, envOf, get, put, eval, evalT, nz, argsV, capsV, ofV, binV, binV.aggV, unV, intV, eqOp, isConst, natV, optV, loadV, loadC, storeV, setC, St.at_, partV, partTy, indexAddrV, fieldAddrV, sliceV, sliceV.rowSl, sliceV.strSl, bounds, cutP, builtinV, lenV, maxL, maxV, appendV, St.elems, roomy, rowOf, rowS, isStr, esz, tdOf, convV, buildV, fillV, partsV, okParts, fillL, D.whole, D.demoteC, D.demote, demoteL, D.global, D.flat, D.leaf, D.cells, TI.agg, TD.rowish, callOpV, moveL, CC, keepB, St.borrowL, St.borrow, D.isLsl, adoptR, adoptC, adoptCL, adoptL, adopt, List.toArray, Array.toList, Nat.reduceEqDiff, Nat.reduceAdd, Nat.reduceSub, Nat.reduceMul, Nat.reduceLeDiff, Nat.reduceLT, reduceIte, reduceCtorEq, forall_const, imp_self, Int.reduceNeg, Int.reduceLT, Int.reduceLE, Int.reduceGT, Int.reduceGE, Int.reduceAdd, Int.reduceSub, Int.reduceMul, Int.reduceToNat, Int.reduceEq, ne_eq, eq_self])
  · right
    obtain rfl : k = L.length := by omega
    have g0 : ¬ ((L.length : Nat) : Int) < L.length := by omega
    have e : L.take L.length = L := List.take_length
    obtain ⟨hw2, hm2⟩ := addL_w L hw1 hlt
    have hfin : ∀ i, i < 16 → addL (lessL s L) L i = s i := set_ext hw2 hs (fun n hn => by
      rw [hm2, hm1]
      by_cases hin : n ∈ L
      · obtain ⟨i, hi⟩ := List.getElem?_of_mem hin
        obtain ⟨_, h2, _⟩ := lst_get _ _ _ _ (hget i n hi)
        simp [hin, h2]
      · simp [hin])
    simp only [st9, lp9_0, subC, atC, Tryd.f9, an9, g0, e, T3, T4, T24, T66, T67, T70, T75, T81, EL, List.replicate_succ, stepD, accs, accP, accW, simpleOp, isAl, isExt, flipD, D.fresh1, D.row, D.plain, D.plain.plainL, St.close, St.close1, St.borrow, retV, resV, resL, outCL, outC, outL, outD, wantedV, opV, An.mid, thawV, D.plainU, prune, envOf, get, put, eval, evalT, nz, argsV, capsV, ofV, binV, binV.aggV, unV, intV, eqOp, isConst, natV, optV, loadV, loadC, storeV, setC, St.at_, partV, partTy, indexAddrV, fieldAddrV, sliceV, sliceV.rowSl, sliceV.strSl, bounds, cutP, builtinV, lenV, maxL, maxV, appendV, St.elems, roomy, rowOf, rowS, isStr, esz, tdOf, convV, buildV, fillV, partsV, okParts, fillL, D.whole, D.demoteC, D.demote, demoteL, D.global, D.flat, D.leaf, D.cells, TI.agg, TD.rowish, callOpV, moveL, CC, keepB, St.borrowL, St.borrow, D.isLsl, adoptR, adoptC, adoptCL, adoptL, adopt, List.toArray, Array.toList, Nat.reduceEqDiff, Nat.reduceAdd, Nat.reduceSub, Nat.reduceMul, Nat.reduceLeDiff, Nat.reduceLT, reduceIte, reduceCtorEq, forall_const, imp_self, Int.reduceNeg, Int.reduceLT, Int.reduceLE, Int.reduceGT, Int.reduceGE, Int.reduceAdd, Int.reduceSub, Int.reduceMul, Int.reduceToNat, Int.reduceEq, ne_eq, eq_self]
    exact ⟨_, _, rfl, by simp, rfl, _, _, rfl, hfin, rfl, rfl⟩

set_option maxRecDepth 10000 in
set_option maxHeartbeats 4000000 in
theorem run9 (hC : Known17 C) (a b : Nat → Nat) (m : Int) (ha : Wds a) (hb : Wds b) (h1 : -32768 ≤ m) (h2 : m < 32768) (B : Hp) : runV T C fi9 [sD a, sD b, .int .i16 m] B = some (.bool true, B) := by
  rw [e_run _ _ _ rfl]
  simp only [fi9, Tryd.f9, an9, AL, T3, T4, T24, T66, T67, T70, T75, T81, EL, List.replicate_succ, stepD, accs, accP, accW, simpleOp, isAl, isExt, flipD, D.fresh1, D.row, D.plain, D.plain.plainL, St.close, St.close1, St.borrow, retV, resV, resL, outCL, outC, outL, outD, wantedV, opV, An.mid, thawV, D.plainU, prune, envOf, get, put, eval, evalT, nz, argsV, capsV, ofV, binV, binV.aggV, unV, intV, eqOp, isConst, natV, optV, loadV, loadC, storeV, St.at_, partV, partTy, indexAddrV, fieldAddrV, sliceV, sliceV.rowSl, sliceV.strSl, bounds, cutP, builtinV, lenV, maxL, maxV, appendV, St.elems, roomy, rowOf, rowS, isStr, esz, tdOf, convV, buildV, fillV, partsV, okParts, fillL, D.whole, D.demoteC, D.demote, demoteL, D.global, D.flat, D.leaf, D.cells, TI.agg, TD.rowish, callOpV, moveL, CC, keepB, St.borrowL, St.borrow, D.isLsl, adoptR, adoptC, adoptCL, adoptL, adopt, List.toArray, Array.toList, Nat.reduceEqDiff, Nat.reduceAdd, Nat.reduceSub, Nat.reduceMul, Nat.reduceLeDiff, Nat.reduceLT, reduceIte, reduceCtorEq, forall_const, imp_self, Int.reduceNeg, Int.reduceLT, Int.reduceLE, Int.reduceGT, Int.reduceGE, Int.reduceAdd, Int.reduceSub, Int.reduceMul, Int.reduceToNat, Int.reduceEq, ne_eq, eq_self]
  refine' dyn_done (fin T _ _ _) ?hd ?he
  case hd => kernel_rfl
  have hL := hC.toLib17
  have e4 := c50 hC
  have n0 := num0 hC
  have n1 := num1 hC
  have n8 := num8 hC
  have kab := both_w (t := b) ha
  have lab := less_w (t := b) ha
  have c1 := c46 hL ha hb
  have c2 := c48 hL ha hb
  have c3 := c47 hL kab lab
  have q1 := eqS (set_ext (eith_w kab lab) ha (fun n hn => by
    rw [mem_eith, mem_both, mem_less ha hb hn]
    cases mem a n <;> cases mem b n <;> rfl))
  have c4 := c46 hL kab lab
  have q2 : eqT T 6 75 (nums .u64 16 (bothS (bothS a b) (lessS a b))) (nums .u64 16 (fun _ => 0)) = some true := eqS (set_ext (both_w (t := lessS a b) kab) none_w (fun n hn => by
    rw [mem_both, mem_both, mem_less ha hb hn, show mem (fun _ => 0) n = false from mem_none]
    cases mem a n <;> cases mem b n <;> rfl))
  have c5 := c41 hL kab
  have c6 := c41 hL lab
  have c7 := c41 hL ha
  have m2 := cnt_both_less ha hb
  have l1 := cnt_le a
  have w4 : IntKind.i64.wrap (((cnt (bothS a b) : Nat) : Int) + ((cnt (lessS a b) : Nat) : Int)) = ((cnt a : Nat) : Int) := by rw [wrapI (by omega) (by omega)]; omega
  have w5 : IntKind.i64.wrap m = m := wrapI (by omega) (by omega)
  by_cases hm : m < 0
  · have c8 := ta_neg hL ha hm
    simp only [e4, n1, c1, c2, c3, c4, c5, c6, c7, c8, q1, q2, w4, w5, hm, AL, T3, T4, T24, T66, T67, T70, T75, T81, EL, List.replicate_succ, stepD, accs, accP, accW, simpleOp, isAl, isExt, flipD, D.fresh1, D.row, D.plain, D.plain.plainL, St.close, St.close1, St.borrow, retV, resV, resL, outCL, outC, outL, outD, wantedV, opV, An.mid, thawV, D.plainU, prune, envOf, get, put, eval, evalT, nz, argsV, capsV, ofV, binV, binV.aggV, unV, intV, eqOp, isConst, natV, optV, loadV, loadC, storeV, St.at_, partV, partTy, indexAddrV, fieldAddrV, sliceV, sliceV.rowSl, sliceV.strSl, bounds, cutP, builtinV, lenV, maxL, maxV, appendV, St.elems, roomy, rowOf, rowS, isStr, esz, tdOf, convV, buildV, fillV, partsV, okParts, fillL, D.whole, D.demoteC, D.demote, demoteL, D.global, D.flat, D.leaf, D.cells, TI.agg, TD.rowish, callOpV, moveL, CC, keepB, St.borrowL, St.borrow, D.isLsl, adoptR, adoptC, adoptCL, adoptL, adopt, List.toArray, Array.toList, Nat.reduceEqDiff, Nat.reduceAdd, Nat.reduceSub, Nat.reduceMul, Nat.reduceLeDiff, Nat.reduceLT, reduceIte, reduceCtorEq, forall_const, imp_self, Int.reduceNeg, Int.reduceLT, Int.reduceLE, Int.reduceGT, Int.reduceGE, Int.reduceAdd, Int.reduceSub, Int.reduceMul, Int.reduceToNat, Int.reduceEq, ne_eq, eq_self]
  · by_cases hb : m > (cnt a : Nat)
    · have c8 := ta_big hL ha hm hb
      have z0 : ((0 : Nat) : Int) = 0 := rfl
      simp only [z0, e4, n8, c1, c2, c3, c4, c5, c6, c7, c8, q1, q2, w4, w5, hm, hb, AL, T3, T4, T24, T66, T67, T70, T75, T81, EL, List.replicate_succ, stepD, accs, accP, accW, simpleOp, isAl, isExt, flipD, D.fresh1, D.row, D.plain, D.plain.plainL, St.close, St.close1, St.borrow, retV, resV, resL, outCL, outC, outL, outD, wantedV, opV, An.mid, thawV, D.plainU, prune, envOf, get, put, eval, evalT, nz, argsV, capsV, ofV, binV, binV.aggV, unV, intV, eqOp, isConst, natV, optV, loadV, loadC, storeV, St.at_, partV, partTy, indexAddrV, fieldAddrV, sliceV, sliceV.rowSl, sliceV.strSl, bounds, cutP, builtinV, lenV, maxL, maxV, appendV, St.elems, roomy, rowOf, rowS, isStr, esz, tdOf, convV, buildV, fillV, partsV, okParts, fillL, D.whole, D.demoteC, D.demote, demoteL, D.global, D.flat, D.leaf, D.cells, TI.agg, TD.rowish, callOpV, moveL, CC, keepB, St.borrowL, St.borrow, D.isLsl, adoptR, adoptC, adoptCL, adoptL, adopt, List.toArray, Array.toList, Nat.reduceEqDiff, Nat.reduceAdd, Nat.reduceSub, Nat.reduceMul, Nat.reduceLeDiff, Nat.reduceLT, reduceIte, reduceCtorEq, forall_const, imp_self, Int.reduceNeg, Int.reduceLT, Int.reduceLE, Int.reduceGT, Int.reduceGE, Int.reduceAdd, Int.reduceSub, Int.reduceMul, Int.reduceToNat, Int.reduceEq, ne_eq, eq_self]
    · obtain ⟨k, rfl⟩ : ∃ k : Nat, m = k := ⟨m.toNat, by omega⟩
      have hk : k ≤ cnt a := by omega
      have c8 := ta_ok hL ha hk
      have hlen := takL_len hk
      have hl : ((takL a k).length : Int) = k := by rw [hlen]
      cases he : ((takL a k).map intD).isEmpty <;> rw [he] at c8
      · simp only [cond_false] at c8
        simp only [e4, n8, c1, c2, c3, c4, c5, c6, c7, c8, q1, q2, w4, w5, hm, hb, hl, AL, T3, T4, T24, T66, T67, T70, T75, T81, EL, List.replicate_succ, stepD, accs, accP, accW, simpleOp, isAl, isExt, flipD, D.fresh1, D.row, D.plain, D.plain.plainL, St.close, St.close1, St.borrow, retV, resV, resL, outCL, outC, outL, outD, wantedV, opV, An.mid, thawV, D.plainU, prune, envOf, get, put, eval, evalT, nz, argsV, capsV, ofV, binV, binV.aggV, unV, intV, eqOp, isConst, natV, optV, loadV, loadC, storeV, St.at_, partV, partTy, indexAddrV, fieldAddrV, sliceV, sliceV.rowSl, sliceV.strSl, bounds, cutP, builtinV, lenV, maxL, maxV, appendV, St.elems, roomy, rowOf, rowS, isStr, esz, tdOf, convV, buildV, fillV, partsV, okParts, fillL, D.whole, D.demoteC, D.demote, demoteL, D.global, D.flat, D.leaf, D.cells, TI.agg, TD.rowish, callOpV, moveL, CC, keepB, St.borrowL, St.borrow, D.isLsl, adoptR, adoptC, adoptCL, adoptL, adopt, List.toArray, Array.toList, Nat.reduceEqDiff, Nat.reduceAdd, Nat.reduceSub, Nat.reduceMul, Nat.reduceLeDiff, Nat.reduceLT, reduceIte, reduceCtorEq, forall_const, imp_self, Int.reduceNeg, Int.reduceLT, Int.reduceLE, Int.reduceGT, Int.reduceGE, Int.reduceAdd, Int.reduceSub, Int.reduceMul, Int.reduceToNat, Int.reduceEq, ne_eq, eq_self]
        refine' in_loop (c' := lp9_0) (fin T _ _ _) ?h rfl ?q
        case h =>
          refine loop9 hC B ha (m := k) (takL a k) rfl false _ ?_
          simp only [an9, ren_map, toks_map, boxes_map, st9, tk, addL, AL, An.at_, tidyV, tidyW, tidyB, tidyT, sift, envBoxes, envToks, conToks, D.toks, D.tok1, toksL, D.boxes, D.box1, boxesL, memN, posN, renE, D.ren, D.ren1, renL, renB, St.content, St.boxOk, St.tokOk, trues, T3, T4, T24, T66, T67, T70, T75, T81, EL, List.replicate_succ, stepD, accs, accP, accW, simpleOp, isAl, isExt, flipD, D.fresh1, D.row, D.plain, D.plain.plainL, St.close, St.close1, St.borrow, retV, resV, resL, outCL, outC, outL, outD, wantedV, opV, An.mid, thawV, D.plainU, prune, envOf, get, put, eval, evalT, nz, argsV, capsV, ofV, binV, binV.aggV, unV, intV, eqOp, isConst, natV, optV, loadV, loadC, storeV, setC, St.at_, partV, partTy, indexAddrV, fieldAddrV, sliceV, sliceV.rowSl, sliceV.strSl, bounds, cutP, builtinV, lenV, maxL, maxV, appendV, St.elems, roomy, rowOf, rowS, isStr, esz, tdOf, convV, buildV, fillV, partsV, okParts, fillL, D.whole, D.demoteC, D.demote, demoteL, D.global, D.flat, D.leaf, D.cells, TI.agg, TD.rowish, callOpV, moveL, CC, keepB, St.borrowL, St.borrow, D.isLsl, adoptR, adoptC, adoptCL, adoptL, adopt, List.toArray, Array.toList, Nat.reduceEqDiff, Nat.reduceAdd, Nat.reduceSub, Nat.reduceMul, Nat.reduceLeDiff, Nat.reduceLT, reduceIte, reduceCtorEq, forall_const, imp_self, Int.reduceNeg, Int.reduceLT, Int.reduceLE, Int.reduceGT, Int.reduceGE, Int.reduceAdd, Int.reduceSub, Int.reduceMul, Int.reduceToNat, Int.reduceEq, ne_eq, eq_self]
          rfl
        rintro x st' ⟨rfl, ρ, s', rfl, hq, r1, r2⟩
        have q3 := eqS hq
        simp only [r1, r2, q3, e4, tk, AL, T3, T4, T24, T66, T67, T70, T75, T81, EL, List.replicate_succ, stepD, accs, accP, accW, simpleOp, isAl, isExt, flipD, D.fresh1, D.row, D.plain, D.plain.plainL, St.close, St.close1, St.borrow, retV, resV, resL, outCL, outC, outL, outD, wantedV, opV, An.mid, thawV, D.plainU, prune, envOf, get, put, eval, evalT, nz, argsV, capsV, ofV, binV, binV.aggV, unV, intV, eqOp, isConst, natV, optV, loadV, loadC, storeV, St.at_, partV, partTy, indexAddrV, fieldAddrV, sliceV, sliceV.rowSl, sliceV.strSl, bounds, cutP, builtinV, lenV, maxL, maxV, appendV, St.elems, roomy, rowOf, rowS, isStr, esz, tdOf, convV, buildV, fillV, partsV, okParts, fillL, D.whole, D.demoteC, D.demote, demoteL, D.global, D.flat, D.leaf, D.cells, TI.agg, TD.rowish, callOpV, moveL, CC, keepB, St.borrowL, St.borrow, D.isLsl, adoptR, adoptC, adoptCL, adoptL, adopt, List.toArray, Array.toList, Nat.reduceEqDiff, Nat.reduceAdd, Nat.reduceSub, Nat.reduceMul, Nat.reduceLeDiff, Nat.reduceLT, reduceIte, reduceCtorEq, forall_const, imp_self, Int.reduceNeg, Int.reduceLT, Int.reduceLE, Int.reduceGT, Int.reduceGE, Int.reduceAdd, Int.reduceSub, Int.reduceMul, Int.reduceToNat, Int.reduceEq, ne_eq, eq_self]
      · simp only [cond_true] at c8
        simp only [e4, n8, c1, c2, c3, c4, c5, c6, c7, c8, q1, q2, w4, w5, hm, hb, hl, AL, T3, T4, T24, T66, T67, T70, T75, T81, EL, List.replicate_succ, stepD, accs, accP, accW, simpleOp, isAl, isExt, flipD, D.fresh1, D.row, D.plain, D.plain.plainL, St.close, St.close1, St.borrow, retV, resV, resL, outCL, outC, outL, outD, wantedV, opV, An.mid, thawV, D.plainU, prune, envOf, get, put, eval, evalT, nz, argsV, capsV, ofV, binV, binV.aggV, unV, intV, eqOp, isConst, natV, optV, loadV, loadC, storeV, St.at_, partV, partTy, indexAddrV, fieldAddrV, sliceV, sliceV.rowSl, sliceV.strSl, bounds, cutP, builtinV, lenV, maxL, maxV, appendV, St.elems, roomy, rowOf, rowS, isStr, esz, tdOf, convV, buildV, fillV, partsV, okParts, fillL, D.whole, D.demoteC, D.demote, demoteL, D.global, D.flat, D.leaf, D.cells, TI.agg, TD.rowish, callOpV, moveL, CC, keepB, St.borrowL, St.borrow, D.isLsl, adoptR, adoptC, adoptCL, adoptL, adopt, List.toArray, Array.toList, Nat.reduceEqDiff, Nat.reduceAdd, Nat.reduceSub, Nat.reduceMul, Nat.reduceLeDiff, Nat.reduceLT, reduceIte, reduceCtorEq, forall_const, imp_self, Int.reduceNeg, Int.reduceLT, Int.reduceLE, Int.reduceGT, Int.reduceGE, Int.reduceAdd, Int.reduceSub, Int.reduceMul, Int.reduceToNat, Int.reduceEq, ne_eq, eq_self]
        refine' in_loop (c' := lp9_0) (fin T _ _ _) ?h2 rfl ?q2
        case h2 =>
          refine loop9 hC B ha (m := k) (takL a k) rfl true _ ?_
          simp only [an9, ren_map, toks_map, boxes_map, st9, tk, addL, AL, An.at_, tidyV, tidyW, tidyB, tidyT, sift, envBoxes, envToks, conToks, D.toks, D.tok1, toksL, D.boxes, D.box1, boxesL, memN, posN, renE, D.ren, D.ren1, renL, renB, St.content, St.boxOk, St.tokOk, trues, T3, T4, T24, T66, T67, T70, T75, T81, EL, List.replicate_succ, stepD, accs, accP, accW, simpleOp, isAl, isExt, flipD, D.fresh1, D.row, D.plain, D.plain.plainL, St.close, St.close1, St.borrow, retV, resV, resL, outCL, outC, outL, outD, wantedV, opV, An.mid, thawV, D.plainU, prune, envOf, get, put, eval, evalT, nz, argsV, capsV, ofV, binV, binV.aggV, unV, intV, eqOp, isConst, natV, optV, loadV, loadC, storeV, setC, St.at_, partV, partTy, indexAddrV, fieldAddrV, sliceV, sliceV.rowSl, sliceV.strSl, bounds, cutP, builtinV, lenV, maxL, maxV, appendV, St.elems, roomy, rowOf, rowS, isStr, esz, tdOf, convV, buildV, fillV, partsV, okParts, fillL, D.whole, D.demoteC, D.demote, demoteL, D.global, D.flat, D.leaf, D.cells, TI.agg, TD.rowish, callOpV, moveL, CC, keepB, St.borrowL, St.borrow, D.isLsl, adoptR, adoptC, adoptCL, adoptL, adopt, List.toArray, Array.toList, Nat.reduceEqDiff, Nat.reduceAdd, Nat.reduceSub, Nat.reduceMul, Nat.reduceLeDiff, Nat.reduceLT, reduceIte, reduceCtorEq, forall_const, imp_self, Int.reduceNeg, Int.reduceLT, Int.reduceLE, Int.reduceGT, Int.reduceGE, Int.reduceAdd, Int.reduceSub, Int.reduceMul, Int.reduceToNat, Int.reduceEq, ne_eq, eq_self]
          rfl
        rintro x st' ⟨rfl, ρ, s', rfl, hq, r1, r2⟩
        have q3 := eqS hq
        simp only [r1, r2, q3, e4, tk, AL, T3, T4, T24, T66, T67, T70, T75, T81, EL, List.replicate_succ, stepD, accs, accP, accW, simpleOp, isAl, isExt, flipD, D.fresh1, D.row, D.plain, D.plain.plainL, St.close, St.close1, St.borrow, retV, resV, resL, outCL, outC, outL, outD, wantedV, opV, An.mid, thawV, D.plainU, prune, envOf, get, put, eval, evalT, nz, argsV, capsV, ofV, binV, binV.aggV, unV, intV, eqOp, isConst, natV, optV, loadV, loadC, storeV, St.at_, partV, partTy, indexAddrV, fieldAddrV, sliceV, sliceV.rowSl, sliceV.strSl, bounds, cutP, builtinV, lenV, maxL, maxV, appendV, St.elems, roomy, rowOf, rowS, isStr, esz, tdOf, convV, buildV, fillV, partsV, okParts, fillL, D.whole, D.demoteC, D.demote, demoteL, D.global, D.flat, D.leaf, D.cells, TI.agg, TD.rowish, callOpV, moveL, CC, keepB, St.borrowL, St.borrow, D.isLsl, adoptR, adoptC, adoptCL, adoptL, adopt, List.toArray, Array.toList, Nat.reduceEqDiff, Nat.reduceAdd, Nat.reduceSub, Nat.reduceMul, Nat.reduceLeDiff, Nat.reduceLT, reduceIte, reduceCtorEq, forall_const, imp_self, Int.reduceNeg, Int.reduceLT, Int.reduceLE, Int.reduceGT, Int.reduceGE, Int.reduceAdd, Int.reduceSub, Int.reduceMul, Int.reduceToNat, Int.reduceEq, ne_eq, eq_self]

end Go.Proofs.YtbbbhalmlboapaaDoor.V
