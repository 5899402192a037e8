/-
Layer 9: forks out of loads.
-/
import Derived.Test.YtnhelkclkdfndaaDoorQD
namespace Go.Proofs.YtnhelkclkdfndaaDoor.V
open Go Go.RowKit
set_option linter.unusedSimpArgs false
set_option linter.unusedVariables false

variable {C : Callees}

theorem sC_nil (l : List D) : setC l 0 [] = l := by simp [setC]
theorem sC_zero (a : D) (l : List D) (x : D) (xs : List D) : setC (a :: l) 0 (x :: xs) = x :: setC l 0 xs := by simp [setC]
theorem sC_succ (a : D) (l : List D) (n : Nat) (xs : List D) : setC (a :: l) (n + 1) xs = a :: setC l n xs := by simp [setC, Nat.add_right_comm]

theorem dyn_eq {T : Tab} {an : An} {C : Callees} {ops : List Oper} {acc : List (List Acc)} {k : Kont} {st : St} (h : okAccs ops acc = true) : goDyn T an C ops [] acc k st = goX T an C k .norm st := dyn_done (T := T) (an := an) (C := C) id h rfl
theorem end_t0 {r : D} {B' : Hp} (h : r.under 0 = true) : endV true [] r B' = some (r, []) := by
  unfold endV
  rw [cond_true, if_pos ⟨h, .inl rfl⟩]; rfl

def Bd (s : RS) : Prop := ∀ l, s = some l → l.length ≤ 1000000

theorem numb_some {s : RS} {r : List UInt8} (h : (numbP s).1 = some r) : ∃ a b, s = some (a :: b :: r) ∧ (numbP s).2 = a.toNat * 256 + b.toNat := by
  rcases s with _ | _ | ⟨a, _ | ⟨b, q⟩⟩
  · cases h
  · cases h
  · cases h
  · injection h with h
    subst h
    exact ⟨a, b, rfl, rfl⟩
theorem numb_none {s : RS} (h : (numbP s).1 = .none) : ∀ a b r, s ≠ some (a :: b :: r) := fun a b r e => by
  subst e; cases h

/-- What holds of a load, at the loop's head. -/
structure Inv9 (l : List UInt8) (s : RS) (ks : List Ky) (ns : List Int) : Prop where
  ok : ∀ q, s = some q → decL l = (parseF q).map (fun acc => (ks ++ acc.map Prod.fst, ns ++ acc.map Prod.snd))
  bad : s = .none → decL l = .none
  len : ks.length + leftS s ≤ 505
  kids : ns.length = ks.length + 1

theorem Inv9.start (l : List UInt8) (hl : l.length ≤ 504) : Inv9 l (numbP (some l)).1 [] [(((numbP (some l)).2 : Nat) : Int)] := by
  cases h : (numbP (some l)).1 with
  | none =>
    have := numb_none h
    refine ⟨(fun q hq => by cases hq), fun _ => ?_, by simp [leftS], rfl⟩
    match l, this with
    | [], _ => rfl
    | [_], _ => rfl
    | a :: b :: r, h => exact absurd rfl (h a b r)
  | some r =>
    obtain ⟨a, b, e1, e2⟩ := numb_some h
    injection e1 with e1
    subst e1
    refine ⟨fun q hq => ?_, (fun hq => by cases hq), by simp [leftS] at hl ⊢; omega, rfl⟩
    injection hq with hq
    subst hq
    rw [e2]
    rfl

theorem Inv9.step {l q : List UInt8} {ks : List Ky} {ns : List Int} (h : Inv9 l (some q) ks ns) (hq : q ≠ []) :
    Inv9 l (numbP (bytesP (some q) 40).1).1 (ks ++ [(bytesP (some q) 40).2]) (ns ++ [(((numbP (bytesP (some q) 40).1).2 : Nat) : Int)]) ∧ leftS (numbP (bytesP (some q) 40).1).1 < leftS (some q) := by
  have hpos : 0 < q.length := List.length_pos_iff.2 hq
  have hlen := h.len
  have hk := h.kids
  have ho := h.ok q rfl
  cases hn : (numbP (bytesP (some q) 40).1).1 with
  | none =>
    have h1 := numb_none hn
    have h2 : parseF q = .none := parseF_bad hq h1
    rw [h2] at ho
    refine ⟨⟨(fun r hr => by cases hr), fun _ => ho, ?_, by simp [hk]⟩, hpos⟩
    simp [leftS] at hlen ⊢; omega
  | some r =>
    obtain ⟨a, b, e1, e2⟩ := numb_some hn
    have e3 : bytesP (some q) 40 = (some (a :: b :: r), (bytesP (some q) 40).2) := by rw [← e1]
    have hb := bytesP_len (s := some q) (m := 40) (r := a :: b :: r) e1
    obtain ⟨q', e4, _, e5⟩ := hb
    injection e4 with e4
    subst e4
    rw [parseF_ok hq e3] at ho
    refine ⟨⟨fun r' hr => ?_, (fun hr => by cases hr), ?_, by simp [hk]⟩, ?_⟩
    · injection hr with hr
      subst hr
      rw [ho, e2, Option.map_map]
      congr 1
      funext acc
      simp
    · simp [leftS] at hlen e5 ⊢; omega
    · simp [leftS] at e5 ⊢; omega

/-! ### The walk -/
abbrev zFk : List D := [.vec 1 [] .exact, .vec 1 [] .exact]
def st69 (x : RS × List Ky × List Int × Bool) : St := ⟨[(2, .lptr 0 0), (4, .bptr 0 0), (5, .lptr 1 0)], [some zFk, some [strR x.2.1 (bif x.2.2.2 then .own 0 else .exact), intR x.2.2.1 (bif x.2.2.2 then .own 1 else .exact)]], bif x.2.2.2 then [true, true] else [], [rdD x.1]⟩

theorem str_app (ks : List Ky) (x : Ky) : ks.map D.str ++ [D.str x] = (ks ++ [x]).map D.str := by simp
theorem int_app (ns : List Int) (x : Int) : ns.map iD ++ [D.int .i64 x] = (ns ++ [x]).map iD := by simp
theorem roomy16 {n : Nat} (h : n ≤ 100000) : roomy n 16 = true := by
  simp only [roomy, nble, decide_eq_true_eq]; omega
theorem roomy8 {n : Nat} (h : n ≤ 100000) : roomy n 8 = true := by
  simp only [roomy, nble, decide_eq_true_eq]; omega

theorem sD_leaf (ks : List Ky) : (ks.map D.str).all D.leaf = true := all_map (fun _ => rfl) ks
theorem sD_glob (ks : List Ky) : (ks.map D.str).all D.global = true := all_map (fun _ => rfl) ks
theorem iD_leaf (ns : List Int) : (ns.map iD).all D.leaf = true := all_map (fun _ => rfl) ns
theorem iD_glob (ns : List Int) : (ns.map iD).all D.global = true := all_map (fun _ => rfl) ns

set_option maxRecDepth 20000 in
set_option maxHeartbeats 4000000 in
theorem loop69 (hC : Lib09B C) (l : List UInt8) (hl : l.length ≤ 504) (st : St) (hst : an69.at_ (some 5) st = st69 ((numbP (some l)).1, [], [(((numbP (some l)).2 : Nat) : Int)], false)) :
    ∃ x st', loopC T an69 C lp69_0 st = some (x, st') ∧ x = .exit 0 ∧ ∃ ρ s ks ns b, st' = ⟨ρ, [some zFk, some [strR ks (bif b then .own 0 else .exact), intR ns (bif b then .own 1 else .exact)]], bif b then [true, true] else [], [rdD s]⟩ ∧ Inv9 l s ks ns ∧ leftS s = 0 ∧ (b = false → ks = []) ∧ get ρ 2 = .lptr 0 0 ∧ get ρ 4 = .bptr 0 0 ∧ get ρ 5 = .lptr 1 0 := by
  refine loop_rule st69 (fun x => Inv9 l x.1 x.2.1 x.2.2.1 ∧ (x.2.2.2 = false → x.2.1 = [])) (fun x => leftS x.1) _ ?_ ((numbP (some l)).1, [], [(((numbP (some l)).2 : Nat) : Int)], false) st hst ⟨Inv9.start l hl, fun _ => rfl⟩
  rintro ⟨s, ks, ns, b⟩ ⟨hI, hb⟩
  simp only at hI hb
  have hlen := hI.len
  have hkid := hI.kids
  have c1 := c119 hC.toLibPackB s
  have hbd : Bd s := fun q hq => by subst hq; simp [leftS] at hlen; omega
  by_cases h : leftS s = 0
  · right
    have g0 : ¬ ((leftS s : Nat) : Int) > 0 := by omega
    simp only [st69, lp69_0, subC, atC, Tryd.f69, an69, c1, g0, T3, T5, T9, T33, T68, T137, T145, T149, T163, EL, e_finWf, e_finWt, e_finMN, e_finMX, retM, meltV, tupV, D.asBox, D.row1, D.freeR, D.freeO, List.replicate_succ, stepD, accs, accP, accW, simpleOp, isAl, isExt, flipD, D.fresh1, D.row, D.plain, D.plain.plainL, St.close, St.close1, St.borrow, retV, resV, resL, outCL, outC, outL, outD, wantedV, opV, An.mid, thawV, St.settle, D.plainU, prune, envOf, get, put, eval, evalT, nz, argsV, capsV, ofV, binV, binV.aggV, unV, intV, eqOp, isConst, natV, optV, loadV, loadC, storeV, setC, St.at_, partV, partTy, indexAddrV, fieldAddrV, sliceV, sliceV.rowSl, sliceV.strSl, bounds, cutP, builtinV, lenV, maxL, maxV, appendV, St.elems, roomy, rowOf, rowS, isStr, esz, tdOf, convV, buildV, fillV, partsV, okParts, fillL, D.whole, D.demoteC, D.demote, demoteL, D.global, D.flat, D.leaf, D.cells, TI.agg, TD.rowish, callOpV, moveL, CC, keepB, St.borrowL, St.borrow, D.isLsl, adoptR, adoptC, adoptCL, adoptL, adopt, List.toArray, Array.toList, Nat.reduceEqDiff, Nat.reduceAdd, Nat.reduceSub, Nat.reduceMul, Nat.reduceLeDiff, Nat.reduceLT, reduceIte, reduceCtorEq, forall_const, imp_self, Int.reduceNeg, Int.reduceLT, Int.reduceLE, Int.reduceGT, Int.reduceGE, Int.reduceAdd, Int.reduceSub, Int.reduceMul, Int.reduceToNat, Int.reduceEq, ne_eq, eq_self]
    exact ⟨_, _, rfl, by simp, rfl, _, _, _, _, _, rfl, hI, h, hb, rfl, rfl, rfl⟩
  · left
    obtain ⟨q, rfl, hq⟩ : ∃ q, s = some q ∧ q ≠ [] := by
      cases s with
      | none => exact absurd rfl h
      | some q => exact ⟨q, rfl, by rintro rfl; exact h rfl⟩
    have g0 : ((leftS (some q) : Nat) : Int) > 0 := by omega
    obtain ⟨hI2, hlt⟩ := hI.step hq
    have c2 : C 120 [.bptr 0 0, .int .i64 40] [rdD (some q)] = some (.vec 1 ((bytesP (some q) 40).2.map byteD) .fresh, [rdD (bytesP (some q) 40).1]) := c120 hC.toLibPackB (some q) 40 (by decide) (by decide) hbd
    have c3 := c118 hC (bytesP (some q) 40).1
    have hk5 : ks.length ≤ 505 := by omega
    have r1 := roomy16 (n := ks.length + 1) (by omega)
    have r2 := roomy8 (n := ns.length + 1) (by omega)
    refine ⟨((numbP (bytesP (some q) 40).1).1, ks ++ [(bytesP (some q) 40).2], ns ++ [(((numbP (bytesP (some q) 40).1).2 : Nat) : Int)], true), ?_, ⟨hI2, fun h => by cases h⟩, hlt⟩
    show ∃ st', go T an69 C lp69_0 .top (st69 (some q, ks, ns, b)) = some (.norm, st') ∧ an69.at_ (firstOf lp69_0) st' = _
    generalize (numbP (bytesP (some q) 40).1).1 = s2 at c3
    generalize (numbP (bytesP (some q) 40).1).2 = n at c3
    generalize (bytesP (some q) 40).1 = s1 at c2 c3
    generalize (bytesP (some q) 40).2 = x at c2
    have a1 := str_app ks x
    have a2 := int_app ns n
    generalize ks ++ [x] = ks2 at a1
    generalize ns ++ [(n : Int)] = ns2 at a2
    cases b <;>
    · simp only [st69, cond_true, cond_false]
      simp only [st69, lp69_0, subC, atC, Tryd.f69, an69, c1, g0, c2, c3, r1, r2, a1, a2, bytesOf_map, sC_nil, sC_zero, sC_succ, T3, T5, T9, T33, T68, T137, T145, T149, T163, EL, e_finWf, e_finWt, e_finMN, e_finMX, retM, meltV, tupV, D.asBox, D.row1, D.freeR, D.freeO, List.replicate_succ, stepD, accs, accP, accW, simpleOp, isAl, isExt, flipD, D.fresh1, D.row, D.plain, D.plain.plainL, St.close, St.close1, St.borrow, retV, resV, resL, outCL, outC, outL, outD, wantedV, opV, An.mid, thawV, St.settle, D.plainU, prune, envOf, get, put, eval, evalT, nz, argsV, capsV, ofV, binV, binV.aggV, unV, intV, eqOp, isConst, natV, optV, loadV, loadC, storeV, St.at_, partV, partTy, indexAddrV, fieldAddrV, sliceV, sliceV.rowSl, sliceV.strSl, bounds, cutP, builtinV, lenV, maxL, maxV, appendV, St.elems, rowOf, rowS, isStr, esz, tdOf, convV, buildV, fillV, partsV, okParts, fillL, D.whole, D.demoteC, D.demote, demoteL, D.global, D.flat, D.leaf, D.cells, TI.agg, TD.rowish, callOpV, moveL, CC, keepB, St.borrowL, St.borrow, D.isLsl, adoptR, adoptC, adoptCL, adoptL, adopt, List.toArray, Array.toList, Nat.reduceEqDiff, Nat.reduceAdd, Nat.reduceSub, Nat.reduceMul, Nat.reduceLeDiff, Nat.reduceLT, reduceIte, reduceCtorEq, forall_const, imp_self, Int.reduceNeg, Int.reduceLT, Int.reduceLE, Int.reduceGT, Int.reduceGE, Int.reduceAdd, Int.reduceSub, Int.reduceMul, Int.reduceToNat, Int.reduceEq, ne_eq, eq_self]
      rw [dyn_eq]
      · simp only [c1, g0, c2, c3, r1, r2, a1, a2, bytesOf_map, sC_nil, sC_zero, sC_succ, T3, T5, T9, T33, T68, T137, T145, T149, T163, EL, e_finWf, e_finWt, e_finMN, e_finMX, retM, meltV, tupV, D.asBox, D.row1, D.freeR, D.freeO, List.replicate_succ, stepD, accs, accP, accW, simpleOp, isAl, isExt, flipD, D.fresh1, D.row, D.plain, D.plain.plainL, St.close, St.close1, St.borrow, retV, resV, resL, outCL, outC, outL, outD, wantedV, opV, An.mid, thawV, St.settle, D.plainU, prune, envOf, get, put, eval, evalT, nz, argsV, capsV, ofV, binV, binV.aggV, unV, intV, eqOp, isConst, natV, optV, loadV, loadC, storeV, St.at_, partV, partTy, indexAddrV, fieldAddrV, sliceV, sliceV.rowSl, sliceV.strSl, bounds, cutP, builtinV, lenV, maxL, maxV, appendV, St.elems, rowOf, rowS, isStr, esz, tdOf, convV, buildV, fillV, partsV, okParts, fillL, D.whole, D.demoteC, D.demote, demoteL, D.global, D.flat, D.leaf, D.cells, TI.agg, TD.rowish, callOpV, moveL, CC, keepB, St.borrowL, St.borrow, D.isLsl, adoptR, adoptC, adoptCL, adoptL, adopt, List.toArray, Array.toList, Nat.reduceEqDiff, Nat.reduceAdd, Nat.reduceSub, Nat.reduceMul, Nat.reduceLeDiff, Nat.reduceLT, reduceIte, reduceCtorEq, forall_const, imp_self, Int.reduceNeg, Int.reduceLT, Int.reduceLE, Int.reduceGT, Int.reduceGE, Int.reduceAdd, Int.reduceSub, Int.reduceMul, Int.reduceToNat, Int.reduceEq, ne_eq, eq_self]
        rw [dyn_eq]
        · simp only [c1, g0, c2, c3, r1, r2, a1, a2, bytesOf_map, sC_nil, sC_zero, sC_succ, T3, T5, T9, T33, T68, T137, T145, T149, T163, EL, e_finWf, e_finWt, e_finMN, e_finMX, retM, meltV, tupV, D.asBox, D.row1, D.freeR, D.freeO, List.replicate_succ, stepD, accs, accP, accW, simpleOp, isAl, isExt, flipD, D.fresh1, D.row, D.plain, D.plain.plainL, St.close, St.close1, St.borrow, retV, resV, resL, outCL, outC, outL, outD, wantedV, opV, An.mid, thawV, St.settle, D.plainU, prune, envOf, get, put, eval, evalT, nz, argsV, capsV, ofV, binV, binV.aggV, unV, intV, eqOp, isConst, natV, optV, loadV, loadC, storeV, St.at_, partV, partTy, indexAddrV, fieldAddrV, sliceV, sliceV.rowSl, sliceV.strSl, bounds, cutP, builtinV, lenV, maxL, maxV, appendV, St.elems, rowOf, rowS, isStr, esz, tdOf, convV, buildV, fillV, partsV, okParts, fillL, D.whole, D.demoteC, D.demote, demoteL, D.global, D.flat, D.leaf, D.cells, TI.agg, TD.rowish, callOpV, moveL, CC, keepB, St.borrowL, St.borrow, D.isLsl, adoptR, adoptC, adoptCL, adoptL, adopt, List.toArray, Array.toList, Nat.reduceEqDiff, Nat.reduceAdd, Nat.reduceSub, Nat.reduceMul, Nat.reduceLeDiff, Nat.reduceLT, reduceIte, reduceCtorEq, forall_const, imp_self, Int.reduceNeg, Int.reduceLT, Int.reduceLE, Int.reduceGT, Int.reduceGE, Int.reduceAdd, Int.reduceSub, Int.reduceMul, Int.reduceToNat, Int.reduceEq, ne_eq, eq_self]
          refine ⟨_, rfl, ?_⟩
          show an69.at_ (some 5) _ = _
          simp only [an69, ren_map, toks_map, boxes_map, AL, An.at_, tidyV, tidyW, tidyB, tidyT, sift, envBoxes, envToks, conToks, D.toks, D.tok1, toksL, D.boxes, D.box1, boxesL, memN, posN, renE, D.ren, D.ren1, renL, renB, St.content, St.boxOk, St.tokOk, trues, T3, T5, T9, T33, T68, T137, T145, T149, T163, EL, e_finWf, e_finWt, e_finMN, e_finMX, retM, meltV, tupV, D.asBox, D.row1, D.freeR, D.freeO, List.replicate_succ, stepD, accs, accP, accW, simpleOp, isAl, isExt, flipD, D.fresh1, D.row, D.plain, D.plain.plainL, St.close, St.close1, St.borrow, retV, resV, resL, outCL, outC, outL, outD, wantedV, opV, An.mid, thawV, St.settle, D.plainU, prune, envOf, get, put, eval, evalT, nz, argsV, capsV, ofV, binV, binV.aggV, unV, intV, eqOp, isConst, natV, optV, loadV, loadC, storeV, setC, St.at_, partV, partTy, indexAddrV, fieldAddrV, sliceV, sliceV.rowSl, sliceV.strSl, bounds, cutP, builtinV, lenV, maxL, maxV, appendV, St.elems, roomy, rowOf, rowS, isStr, esz, tdOf, convV, buildV, fillV, partsV, okParts, fillL, D.whole, D.demoteC, D.demote, demoteL, D.global, D.flat, D.leaf, D.cells, TI.agg, TD.rowish, callOpV, moveL, CC, keepB, St.borrowL, St.borrow, D.isLsl, adoptR, adoptC, adoptCL, adoptL, adopt, List.toArray, Array.toList, Nat.reduceEqDiff, Nat.reduceAdd, Nat.reduceSub, Nat.reduceMul, Nat.reduceLeDiff, Nat.reduceLT, reduceIte, reduceCtorEq, forall_const, imp_self, Int.reduceNeg, Int.reduceLT, Int.reduceLE, Int.reduceGT, Int.reduceGE, Int.reduceAdd, Int.reduceSub, Int.reduceMul, Int.reduceToNat, Int.reduceEq, ne_eq, eq_self]
        · split <;> kernel_rfl
      · split <;> kernel_rfl

theorem under_str (ks : List Ky) (n : Nat) : D.under.underL n (ks.map D.str) = true := mapL_under (fun _ => rfl) ks
theorem under_int (ns : List Int) (n : Nat) : D.under.underL n (ns.map iD) = true := mapL_under (fun _ => rfl) ns

/-- What a load's fork is told as. -/
def fkD : Option (List Ky × List Int) → D
  | some x => .agg [strR x.1 .fresh, intR x.2 .fresh]
  | .none => .agg [.vec 1 [] .fresh, .vec 1 [] .fresh]
def fkE : Option (List Ky × List Int) → Nat
  | some _ => 0
  | .none => 3

set_option maxRecDepth 20000 in
set_option maxHeartbeats 4000000 in
theorem run69 (hC : Lib09B C) (l : List UInt8) (hl9 : l.length ≤ 1000) : runV T C fi69 [.vec 1 (l.map byteD) .none] [] = some (.tuple [fkD (decF l), errD (fkE (decF l))], []) := by
  rw [e_run _ _ _ rfl]
  by_cases hl : l.length ≤ 504
  · have g1 : ¬ (l.length : Int) > 504 := by omega
    have c1 := c92 hC.toLibPack l (by omega)
    have c2 := c118 hC (some l)
    have lp := loop69 hC l hl
    have n0 : [D.int .i64 ((numbP (some l)).2 : Nat)] = [(((numbP (some l)).2 : Nat) : Int)].map iD := rfl
    simp only [fi69, Tryd.f69, an69, g1, c1, c2, sC_nil, sC_zero, sC_succ, T3, T5, T9, T33, T68, T137, T145, T149, T163, EL, e_finWf, e_finWt, e_finMN, e_finMX, retM, meltV, tupV, D.asBox, D.row1, D.freeR, D.freeO, List.replicate_succ, stepD, accs, accP, accW, simpleOp, isAl, isExt, flipD, D.fresh1, D.row, D.plain, D.plain.plainL, St.close, St.close1, St.borrow, retV, resV, resL, outCL, outC, outL, outD, wantedV, opV, An.mid, thawV, St.settle, D.plainU, prune, envOf, get, put, eval, evalT, nz, argsV, capsV, ofV, binV, binV.aggV, unV, intV, eqOp, isConst, natV, optV, loadV, loadC, storeV, St.at_, partV, partTy, indexAddrV, fieldAddrV, sliceV, sliceV.rowSl, sliceV.strSl, bounds, cutP, builtinV, lenV, maxL, maxV, appendV, St.elems, roomy, rowOf, rowS, isStr, esz, tdOf, convV, buildV, fillV, partsV, okParts, fillL, D.whole, D.demoteC, D.demote, demoteL, D.global, D.flat, D.leaf, D.cells, TI.agg, TD.rowish, callOpV, moveL, CC, keepB, St.borrowL, St.borrow, D.isLsl, adoptR, adoptC, adoptCL, adoptL, adopt, List.toArray, Array.toList, Nat.reduceEqDiff, Nat.reduceAdd, Nat.reduceSub, Nat.reduceMul, Nat.reduceLeDiff, Nat.reduceLT, reduceIte, reduceCtorEq, forall_const, imp_self, Int.reduceNeg, Int.reduceLT, Int.reduceLE, Int.reduceGT, Int.reduceGE, Int.reduceAdd, Int.reduceSub, Int.reduceMul, Int.reduceToNat, Int.reduceEq, ne_eq, eq_self]
    refine' in_loop (c' := lp69_0) (fin T _ _ _) ?h rfl ?q
    case h =>
      refine lp _ ?_
      simp only [an69, ren_map, toks_map, boxes_map, st69, An.at_, tidyV, tidyW, tidyB, tidyT, sift, envBoxes, envToks, conToks, D.toks, D.tok1, toksL, D.boxes, D.box1, boxesL, memN, posN, renE, D.ren, D.ren1, renL, renB, St.content, St.boxOk, St.tokOk, trues, T3, T5, T9, T33, T68, T137, T145, T149, T163, EL, e_finWf, e_finWt, e_finMN, e_finMX, retM, meltV, tupV, D.asBox, D.row1, D.freeR, D.freeO, List.replicate_succ, stepD, accs, accP, accW, simpleOp, isAl, isExt, flipD, D.fresh1, D.row, D.plain, D.plain.plainL, St.close, St.close1, St.borrow, retV, resV, resL, outCL, outC, outL, outD, wantedV, opV, An.mid, thawV, St.settle, D.plainU, prune, envOf, get, put, eval, evalT, nz, argsV, capsV, ofV, binV, binV.aggV, unV, intV, eqOp, isConst, natV, optV, loadV, loadC, storeV, setC, St.at_, partV, partTy, indexAddrV, fieldAddrV, sliceV, sliceV.rowSl, sliceV.strSl, bounds, cutP, builtinV, lenV, maxL, maxV, appendV, St.elems, roomy, rowOf, rowS, isStr, esz, tdOf, convV, buildV, fillV, partsV, okParts, fillL, D.whole, D.demoteC, D.demote, demoteL, D.global, D.flat, D.leaf, D.cells, TI.agg, TD.rowish, callOpV, moveL, CC, keepB, St.borrowL, St.borrow, D.isLsl, adoptR, adoptC, adoptCL, adoptL, adopt, List.toArray, Array.toList, Nat.reduceEqDiff, Nat.reduceAdd, Nat.reduceSub, Nat.reduceMul, Nat.reduceLeDiff, Nat.reduceLT, reduceIte, reduceCtorEq, forall_const, imp_self, Int.reduceNeg, Int.reduceLT, Int.reduceLE, Int.reduceGT, Int.reduceGE, Int.reduceAdd, Int.reduceSub, Int.reduceMul, Int.reduceToNat, Int.reduceEq, ne_eq, eq_self]
      all_goals rfl
    rintro x st' ⟨rfl, ρ, s, ks, ns, b, rfl, hI, h0, hb, r2, r4, r5⟩
    clear lp
    have d1 := c94 hC.toLibPack s
    have hks := hI.len
    have hns := hI.kids
    have k1 := fun B => c73 hC.toLib09A ks ns (by omega) (by omega) B
    unfold decF
    rw [if_neg (by omega)]
    rcases s with _ | _ | ⟨c, q⟩
    · have e1 : doneE .none = 3 := rfl
      rw [e1, errD_pos (by decide)] at d1
      rw [hI.bad rfl]
      unfold fkD fkE
      simp only [r2, r4, r5, d1, cond_true, cond_false, T3, T5, T9, T33, T68, T137, T145, T149, T163, EL, e_finWf, e_finWt, e_finMN, e_finMX, retM, meltV, tupV, D.asBox, D.row1, D.freeR, D.freeO, List.replicate_succ, stepD, accs, accP, accW, simpleOp, isAl, isExt, flipD, D.fresh1, D.row, D.plain, D.plain.plainL, St.close, St.close1, St.borrow, retV, resV, resL, outCL, outC, outL, outD, wantedV, opV, An.mid, thawV, St.settle, D.plainU, prune, envOf, get, put, eval, evalT, nz, argsV, capsV, ofV, binV, binV.aggV, unV, intV, eqOp, isConst, natV, optV, loadV, loadC, storeV, setC, St.at_, partV, partTy, indexAddrV, fieldAddrV, sliceV, sliceV.rowSl, sliceV.strSl, bounds, cutP, builtinV, lenV, maxL, maxV, appendV, St.elems, roomy, rowOf, rowS, isStr, esz, tdOf, convV, buildV, fillV, partsV, okParts, fillL, D.whole, D.demoteC, D.demote, demoteL, D.global, D.flat, D.leaf, D.cells, TI.agg, TD.rowish, callOpV, moveL, CC, keepB, St.borrowL, St.borrow, D.isLsl, adoptR, adoptC, adoptCL, adoptL, adopt, List.toArray, Array.toList, Nat.reduceEqDiff, Nat.reduceAdd, Nat.reduceSub, Nat.reduceMul, Nat.reduceLeDiff, Nat.reduceLT, reduceIte, reduceCtorEq, forall_const, imp_self, Int.reduceNeg, Int.reduceLT, Int.reduceLE, Int.reduceGT, Int.reduceGE, Int.reduceAdd, Int.reduceSub, Int.reduceMul, Int.reduceToNat, Int.reduceEq, ne_eq, eq_self]
      exact end_t0 rfl
    · have e1 : doneE (some []) = 0 := rfl
      rw [e1, errD_zero] at d1
      rw [hI.ok [] rfl, parseF_nil]
      simp only [Option.map_some, List.map_nil, List.append_nil]
      unfold mayFE at k1
      cases hm : mayF ks ns with
      | false =>
        rw [hm, if_neg (by decide), errD_pos (by decide)] at k1
        simp only [Bool.false_eq_true, if_false, fkD, fkE]
        cases b <;>
        · simp only [r2, r4, r5, d1, k1, cond_true, cond_false, sD_leaf, sD_glob, iD_leaf, iD_glob, T3, T5, T9, T33, T68, T137, T145, T149, T163, EL, e_finWf, e_finWt, e_finMN, e_finMX, retM, meltV, tupV, D.asBox, D.row1, D.freeR, D.freeO, List.replicate_succ, stepD, accs, accP, accW, simpleOp, isAl, isExt, flipD, D.fresh1, D.row, D.plain, D.plain.plainL, St.close, St.close1, St.borrow, retV, resV, resL, outCL, outC, outL, outD, wantedV, opV, An.mid, thawV, St.settle, D.plainU, prune, envOf, get, put, eval, evalT, nz, argsV, capsV, ofV, binV, binV.aggV, unV, intV, eqOp, isConst, natV, optV, loadV, loadC, storeV, setC, St.at_, partV, partTy, indexAddrV, fieldAddrV, sliceV, sliceV.rowSl, sliceV.strSl, bounds, cutP, builtinV, lenV, maxL, maxV, appendV, St.elems, roomy, rowOf, rowS, isStr, esz, tdOf, convV, buildV, fillV, partsV, okParts, fillL, D.whole, D.demoteC, D.demote, demoteL, D.global, D.flat, D.leaf, D.cells, TI.agg, TD.rowish, callOpV, moveL, CC, keepB, St.borrowL, St.borrow, D.isLsl, adoptR, adoptC, adoptCL, adoptL, adopt, List.toArray, Array.toList, Nat.reduceEqDiff, Nat.reduceAdd, Nat.reduceSub, Nat.reduceMul, Nat.reduceLeDiff, Nat.reduceLT, reduceIte, reduceCtorEq, forall_const, imp_self, Int.reduceNeg, Int.reduceLT, Int.reduceLE, Int.reduceGT, Int.reduceGE, Int.reduceAdd, Int.reduceSub, Int.reduceMul, Int.reduceToNat, Int.reduceEq, ne_eq, eq_self]
          exact end_t0 rfl
      | true =>
        rw [hm, if_pos rfl, errD_zero] at k1
        cases b with
        | false =>
          have := (may_at hm).1
          rw [hb rfl] at this
          simp at this
        | true =>
          simp only [if_true, fkD, fkE]
          simp only [r2, r4, r5, d1, k1, cond_true, cond_false, sD_leaf, sD_glob, iD_leaf, iD_glob, T3, T5, T9, T33, T68, T137, T145, T149, T163, EL, e_finWf, e_finWt, e_finMN, e_finMX, retM, meltV, tupV, D.asBox, D.row1, D.freeR, D.freeO, List.replicate_succ, stepD, accs, accP, accW, simpleOp, isAl, isExt, flipD, D.fresh1, D.row, D.plain, D.plain.plainL, St.close, St.close1, St.borrow, retV, resV, resL, outCL, outC, outL, outD, wantedV, opV, An.mid, thawV, St.settle, D.plainU, prune, envOf, get, put, eval, evalT, nz, argsV, capsV, ofV, binV, binV.aggV, unV, intV, eqOp, isConst, natV, optV, loadV, loadC, storeV, setC, St.at_, partV, partTy, indexAddrV, fieldAddrV, sliceV, sliceV.rowSl, sliceV.strSl, bounds, cutP, builtinV, lenV, maxL, maxV, appendV, St.elems, roomy, rowOf, rowS, isStr, esz, tdOf, convV, buildV, fillV, partsV, okParts, fillL, D.whole, D.demoteC, D.demote, demoteL, D.global, D.flat, D.leaf, D.cells, TI.agg, TD.rowish, callOpV, moveL, CC, keepB, St.borrowL, St.borrow, D.isLsl, adoptR, adoptC, adoptCL, adoptL, adopt, List.toArray, Array.toList, Nat.reduceEqDiff, Nat.reduceAdd, Nat.reduceSub, Nat.reduceMul, Nat.reduceLeDiff, Nat.reduceLT, reduceIte, reduceCtorEq, forall_const, imp_self, Int.reduceNeg, Int.reduceLT, Int.reduceLE, Int.reduceGT, Int.reduceGE, Int.reduceAdd, Int.reduceSub, Int.reduceMul, Int.reduceToNat, Int.reduceEq, ne_eq, eq_self]
          exact end_t0 (by simp only [D.under, D.under.underL, under_str, under_int, Bool.and_self])
    · simp [leftS] at h0
  · have g1 : (l.length : Int) > 504 := by omega
    unfold decF
    rw [if_pos (by omega)]
    unfold fkD fkE
    simp only [fi69, Tryd.f69, an69, g1, sC_nil, sC_zero, sC_succ, T3, T5, T9, T33, T68, T137, T145, T149, T163, EL, e_finWf, e_finWt, e_finMN, e_finMX, retM, meltV, tupV, D.asBox, D.row1, D.freeR, D.freeO, List.replicate_succ, stepD, accs, accP, accW, simpleOp, isAl, isExt, flipD, D.fresh1, D.row, D.plain, D.plain.plainL, St.close, St.close1, St.borrow, retV, resV, resL, outCL, outC, outL, outD, wantedV, opV, An.mid, thawV, St.settle, D.plainU, prune, envOf, get, put, eval, evalT, nz, argsV, capsV, ofV, binV, binV.aggV, unV, intV, eqOp, isConst, natV, optV, loadV, loadC, storeV, St.at_, partV, partTy, indexAddrV, fieldAddrV, sliceV, sliceV.rowSl, sliceV.strSl, bounds, cutP, builtinV, lenV, maxL, maxV, appendV, St.elems, roomy, rowOf, rowS, isStr, esz, tdOf, convV, buildV, fillV, partsV, okParts, fillL, D.whole, D.demoteC, D.demote, demoteL, D.global, D.flat, D.leaf, D.cells, TI.agg, TD.rowish, callOpV, moveL, CC, keepB, St.borrowL, St.borrow, D.isLsl, adoptR, adoptC, adoptCL, adoptL, adopt, List.toArray, Array.toList, Nat.reduceEqDiff, Nat.reduceAdd, Nat.reduceSub, Nat.reduceMul, Nat.reduceLeDiff, Nat.reduceLT, reduceIte, reduceCtorEq, forall_const, imp_self, Int.reduceNeg, Int.reduceLT, Int.reduceLE, Int.reduceGT, Int.reduceGE, Int.reduceAdd, Int.reduceSub, Int.reduceMul, Int.reduceToNat, Int.reduceEq, ne_eq, eq_self]
    exact end_t0 rfl
theorem c69 (hC : Lib09B C) (l : List UInt8) (hl9 : l.length ≤ 1000) : C 69 [.vec 1 (l.map byteD) .none] [] = some (.tuple [fkD (decF l), errD (fkE (decF l))], []) := hC.f69 _ _ _ (run69 hC l hl9)

end Go.Proofs.YtnhelkclkdfndaaDoor.V
