/-
Layer 2, for other layers: sums of 32 bits.
-/
import Derived.Test.YtbbbhalmlboapaaDoorVA
import Derived.Test.YtbbbhalmlboapaaDoorIC
namespace Go.Proofs.YtbbbhalmlboapaaDoor.V
open Go Go.RowKit
set_option linter.unusedSimpArgs false
set_option linter.unusedVariables false

/-! warren/crc.half -/
def an99 : An := ⟨fun _ => .none, fun _ => 0, fun _ => false, fun _ => .none⟩
noncomputable def fi99 : FI := ⟨1, 12, Tryd.f99.body.getD .skip, Tryd.f99.results.toList, an99, false, false, false⟩
theorem ok99 : FnOk Tryd.prog 99 fi99 := ⟨⟨Tryd.f99, Tryd.func99, by kernel_rfl, rfl, rfl, rfl⟩, by decide, by kernel_rfl, fun h => by cases h⟩
/-! warren/crc.More -/
def an91 : An := ⟨fun | 3 => some [5, 10, 11, 12] | _ => .none, fun _ => 0, fun _ => false, fun _ => .none⟩
noncomputable def fi91 : FI := ⟨2, 25, Tryd.f91.body.getD .skip, Tryd.f91.results.toList, an91, false, false, false⟩
theorem ok91 : FnOk Tryd.prog 91 fi91 := ⟨⟨Tryd.f91, Tryd.func91, by kernel_rfl, rfl, rfl, rfl⟩, by decide, by kernel_rfl, fun h => by cases h⟩
noncomputable def lp91_0 : Code := subC [1, 1, 0, 1, 0, 0] (Tryd.f91.body.getD .skip)   -- head 3 keep [5, 10, 11, 12]
/-! warren/crc.Sum -/
def an75 : An := ⟨fun _ => .none, fun _ => 0, fun _ => false, fun _ => .none⟩
noncomputable def fi75 : FI := ⟨1, 5, Tryd.f75.body.getD .skip, Tryd.f75.results.toList, an75, false, false, false⟩
theorem ok75 : FnOk Tryd.prog 75 fi75 := ⟨⟨Tryd.f75, Tryd.func75, by kernel_rfl, rfl, rfl, rfl⟩, by decide, by kernel_rfl, fun h => by cases h⟩
/-! warren/crc.Is -/
def an77 : An := ⟨fun _ => .none, fun _ => 0, fun _ => false, fun _ => .none⟩
noncomputable def fi77 : FI := ⟨1, 29, Tryd.f77.body.getD .skip, Tryd.f77.results.toList, an77, false, false, false⟩
theorem ok77 : FnOk Tryd.prog 77 fi77 := ⟨⟨Tryd.f77, Tryd.func77, by kernel_rfl, rfl, rfl, rfl⟩, by decide, by kernel_rfl, fun h => by cases h⟩
/-! warren/warrenref02.More -/
def an76 : An := ⟨fun | 3 => some [1, 5, 6] | 7 => some [1, 5, 6, 7] | _ => .none, fun _ => 0, fun _ => false, fun _ => .none⟩
noncomputable def fi76 : FI := ⟨2, 38, Tryd.f76.body.getD .skip, Tryd.f76.results.toList, an76, false, false, false⟩
theorem ok76 : FnOk Tryd.prog 76 fi76 := ⟨⟨Tryd.f76, Tryd.func76, by kernel_rfl, rfl, rfl, rfl⟩, by decide, by kernel_rfl, fun h => by cases h⟩
noncomputable def lp76_0 : Code := subC [1, 1, 0, 1, 0, 0] (Tryd.f76.body.getD .skip)   -- head 3 keep [1, 5, 6]
noncomputable def lp76_1 : Code := subC [1, 1, 0, 1, 0, 0, 1, 0, 0, 1, 1, 0, 0] (Tryd.f76.body.getD .skip)   -- head 7 keep [1, 5, 6, 7]
/-! warren/warrenref02.Is -/
def an79 : An := ⟨fun _ => .none, fun _ => 0, fun _ => false, fun _ => .none⟩
noncomputable def fi79 : FI := ⟨1, 58, Tryd.f79.body.getD .skip, Tryd.f79.results.toList, an79, false, false, false⟩
theorem ok79 : FnOk Tryd.prog 79 fi79 := ⟨⟨Tryd.f79, Tryd.func79, by kernel_rfl, rfl, rfl, rfl⟩, by decide, by kernel_rfl, fun h => by cases h⟩
structure LibCrc (C : Callees) : Prop extends LibIntC C where
  f99 : Has T C 99 fi99
  f91 : Has T C 91 fi91
  f75 : Has T C 75 fi75
  f77 : Has T C 77 fi77
  f76 : Has T C 76 fi76
  f79 : Has T C 79 fi79

variable {C : Callees}

abbrev byV (l : List UInt8) (p : Perm) : D := .vec 1 (l.map byteD) p

/-! ### Four bits -/
set_option maxRecDepth 10000 in
theorem run99 (C : Callees) (v : Nat) (hv : v < 4294967296) (B : Hp) : runV T C fi99 [.int .u32 v] B = some (.int .u32 (halfN v : Nat), B) := by
  rw [e_run _ _ _ rfl]
  have h1 : shrV .u32 (v : Int) 4 = ((v / 16 : Nat) : Int) := shr_nat .u32 v 4 (by decide)
  have h2 : bitsV .and .u32 (v : Int) 15 = ((v % 16 : Nat) : Int) := by
    have := bits_nat (k := .u32) rfl .and v 15 (by show _ < 2 ^ 32; omega) (by decide)
    simp only [show (15 : Nat) = 2 ^ 4 - 1 from rfl, Nat.and_two_pow_sub_one_eq_mod] at this
    exact this
  have h3 : bitsV .xor .u32 ((v / 16 : Nat) : Int) ((tabN.getD (v % 16) 0 : Nat) : Int) = ((halfN v : Nat) : Int) := by
    have ht : ∀ r : Fin 16, tabN.getD r.val 0 < 2 ^ 32 := of_decide_eq_true (by kernel_rfl)
    have := bits_nat (k := .u32) rfl .xor (v / 16) (tabN.getD (v % 16) 0) (by show _ < 2 ^ 32; omega) (ht ⟨v % 16, by omega⟩)
    exact this
  have h4 : v % 16 < 16 := by omega
  generalize halfN v = w at h3 ⊢
  generalize v % 16 = r at h2 h3 h4
  have h5 : (0 : Int) ≤ r := by omega
  have hb : buildV T 155 [(0, .int .u32 0), (1, .int .u32 274646895), (2, .int .u32 549293790), (3, .int .u32 820201905), (4, .int .u32 1098587580), (5, .int .u32 1361435347), (6, .int .u32 1640403810), (7, .int .u32 1905808397), (8, .int .u32 2197175160), (9, .int .u32 2460548119), (10, .int .u32 2722870694), (11, .int .u32 2987750089), (12, .int .u32 3280807620), (13, .int .u32 3553878443), (14, .int .u32 3811616794), (15, .int .u32 4084100981)] = some (.agg (nums .u32 16 fun i => tabN.getD i 0)) := by
    unfold buildV
    rw [T155]
    simp only [T113]
    rfl
  have g1 := nums_get (k := .u32) (n := 16) (m := fun i => tabN.getD i 0) h4
  simp only [fi99, Tryd.f99, an99, h1, h2, h3, h4, h5, hb, g1, AL, T113, T155, EL, e_finWf, e_finWt, e_finMN, e_finMX, retM, meltV, tupV, D.asBox, D.row1, D.freeR, D.freeO, List.replicate_succ, stepD, accs, accP, accW, simpleOp, isAl, isExt, flipD, D.fresh1, D.row, D.plain, D.plain.plainL, St.close, St.close1, St.borrow, retV, resV, resL, outCL, outC, outL, outD, wantedV, opV, An.mid, thawV, St.settle, D.plainU, prune, envOf, get, put, eval, evalT, nz, argsV, capsV, ofV, binV, binV.aggV, unV, intV, eqOp, isConst, natV, optV, loadV, loadC, storeV, St.at_, partV, partTy, indexAddrV, fieldAddrV, sliceV, sliceV.rowSl, sliceV.strSl, bounds, cutP, builtinV, lenV, maxL, maxV, appendV, St.elems, roomy, rowOf, rowS, isStr, esz, tdOf, convV, fillV, partsV, okParts, fillL, D.whole, D.demoteC, D.demote, demoteL, D.global, D.flat, D.leaf, D.cells, TI.agg, TD.rowish, callOpV, moveL, CC, keepB, St.borrowL, St.borrow, D.isLsl, adoptR, adoptC, adoptCL, adoptL, adopt, List.toArray, Array.toList, Nat.reduceEqDiff, Nat.reduceAdd, Nat.reduceSub, Nat.reduceMul, Nat.reduceLeDiff, Nat.reduceLT, reduceIte, reduceCtorEq, forall_const, imp_self, Int.reduceNeg, Int.reduceLT, Int.reduceLE, Int.reduceGT, Int.reduceGE, Int.reduceAdd, Int.reduceSub, Int.reduceMul, Int.reduceToNat, Int.reduceEq, ne_eq, eq_self]
theorem c99 (hC : LibCrc C) (v : Nat) (hv : v < 4294967296) (B : Hp) : C 99 [.int .u32 v] B = some (.int .u32 (halfN v : Nat), B) := hC.f99 _ _ _ (run99 C v hv B)

theorem not_u32 {v : Nat} (h : v < 4294967296) : bitsV .xor .u32 (if IntKind.u32.signed = true then -1 else IntKind.u32.max) (v : Int) = ((4294967295 - v : Nat) : Int) := by
  have := bits_nat (k := .u32) rfl .xor 4294967295 v (by decide) (by show _ < 2 ^ 32; omega)
  simp only [ones_xor h] at this
  exact this
theorem xor_u32 {a b : Nat} (ha : a < 4294967296) (hb : b < 4294967296) : bitsV .xor .u32 (a : Int) (b : Int) = ((a ^^^ b : Nat) : Int) :=
  bits_nat (k := .u32) rfl .xor a b ha hb

theorem crc_take {v : Nat} {l : List UInt8} {k : Nat} {c : UInt8} (h : l[k]? = some c) : crcN v (l.take (k + 1)) = byteN (crcN v (l.take k)) c.toNat := by
  rw [List.take_add_one, h, crc_append]; rfl

/-! ### Sums -/
def st91 (B : Hp) (v : Nat) (l : List UInt8) (k : Nat) : St := ⟨[(5, .int .u32 (crcN v (l.take k) : Nat)), (10, byV l .none), (11, .int .i64 l.length), (12, .int .i64 k)], [], [], B⟩
set_option maxRecDepth 10000 in
theorem loop91 (hC : LibCrc C) (B : Hp) {v : Nat} (hv : v < 4294967296) (l : List UInt8) (hl : l.length ≤ 1000000) (st : St) (hst : an91.at_ (some 3) st = st91 B v l 0) :
    ∃ x st', loopC T an91 C lp91_0 st = some (x, st') ∧ x = .exit 0 ∧ ∃ ρ, st' = ⟨ρ, [], [], B⟩ ∧ get ρ 5 = .int .u32 (crcN v l : Nat) := by
  refine loop_rule (st91 B v l) (fun k => k ≤ l.length) (fun k => l.length - k) _ ?_ 0 st hst (Nat.zero_le _)
  intro k hk
  rcases Nat.lt_or_ge k l.length with h | h
  · left
    refine ⟨k + 1, ?_, by omega, by omega⟩
    have hc := List.getElem?_eq_getElem h
    generalize l[k] = c at hc
    have hcl := c.toNat_lt
    have ht := crc_take (v := v) hc
    have hlt := crc_lt (l.take k) hv
    have g0 : (k : Int) < l.length := by omega
    have g1 : (0 : Int) ≤ k := by omega
    have g2 : (l.map byteD)[k]? = some (.int .u8 c.toNat) := by rw [List.getElem?_map, hc]; rfl
    have w1 : IntKind.i64.wrap ((k : Int) + 1) = ((k + 1 : Nat) : Int) := by rw [wrapI (by omega) (by omega)]; rfl
    have w2 : IntKind.u32.wrap (c.toNat : Int) = c.toNat := wrap_u32 (by omega) (by omega)
    have b1 := xor_u32 (a := crcN v (l.take k)) (b := c.toNat) hlt (by omega)
    have hx := Nat.xor_lt_two_pow (n := 32) hlt (by omega : c.toNat < 2 ^ 32)
    have c1 := c99 hC (crcN v (l.take k) ^^^ c.toNat) hx
    have c2 := c99 hC (halfN (crcN v (l.take k) ^^^ c.toNat)) (half_lt hx)
    simp only [st91, lp91_0, subC, atC, Tryd.f91, an91, g0, g1, g2, w1, w2, b1, c1, c2, AL, T3, T5, T33, T113, EL, e_finWf, e_finWt, e_finMN, e_finMX, retM, meltV, tupV, D.asBox, D.row1, D.freeR, D.freeO, List.replicate_succ, stepD, accs, accP, accW, simpleOp, isAl, isExt, flipD, D.fresh1, D.row, D.plain, D.plain.plainL, St.close, St.close1, St.borrow, retV, resV, resL, outCL, outC, outL, outD, wantedV, opV, An.mid, thawV, St.settle, D.plainU, prune, envOf, get, put, eval, evalT, nz, argsV, capsV, ofV, binV, binV.aggV, unV, intV, eqOp, isConst, natV, optV, loadV, loadC, storeV, setC, St.at_, partV, partTy, indexAddrV, fieldAddrV, sliceV, sliceV.rowSl, sliceV.strSl, bounds, cutP, builtinV, lenV, maxL, maxV, appendV, St.elems, roomy, rowOf, rowS, isStr, esz, tdOf, convV, buildV, fillV, partsV, okParts, fillL, D.whole, D.demoteC, D.demote, demoteL, D.global, D.flat, D.leaf, D.cells, TI.agg, TD.rowish, callOpV, moveL, CC, keepB, St.borrowL, St.borrow, D.isLsl, adoptR, adoptC, adoptCL, adoptL, adopt, List.toArray, Array.toList, Nat.reduceEqDiff, Nat.reduceAdd, Nat.reduceSub, Nat.reduceMul, Nat.reduceLeDiff, Nat.reduceLT, reduceIte, reduceCtorEq, forall_const, imp_self, Int.reduceNeg, Int.reduceLT, Int.reduceLE, Int.reduceGT, Int.reduceGE, Int.reduceAdd, Int.reduceSub, Int.reduceMul, Int.reduceToNat, Int.reduceEq, ne_eq, eq_self]
    refine ⟨_, rfl, ?_⟩
    show an91.at_ (some 3) _ = _
    simp only [an91, ren_map, toks_map, boxes_map, st91, ht, byteN, An.at_, tidyV, tidyW, tidyB, tidyT, sift, envBoxes, envToks, conToks, D.toks, D.tok1, toksL, D.boxes, D.box1, boxesL, memN, posN, renE, D.ren, D.ren1, renL, renB, St.content, St.boxOk, St.tokOk, trues, T3, T5, T33, T113, EL, e_finWf, e_finWt, e_finMN, e_finMX, retM, meltV, tupV, D.asBox, D.row1, D.freeR, D.freeO, List.replicate_succ, stepD, accs, accP, accW, simpleOp, isAl, isExt, flipD, D.fresh1, D.row, D.plain, D.plain.plainL, St.close, St.close1, St.borrow, retV, resV, resL, outCL, outC, outL, outD, wantedV, opV, An.mid, thawV, St.settle, D.plainU, prune, envOf, get, put, eval, evalT, nz, argsV, capsV, ofV, binV, binV.aggV, unV, intV, eqOp, isConst, natV, optV, loadV, loadC, storeV, setC, St.at_, partV, partTy, indexAddrV, fieldAddrV, sliceV, sliceV.rowSl, sliceV.strSl, bounds, cutP, builtinV, lenV, maxL, maxV, appendV, St.elems, roomy, rowOf, rowS, isStr, esz, tdOf, convV, buildV, fillV, partsV, okParts, fillL, D.whole, D.demoteC, D.demote, demoteL, D.global, D.flat, D.leaf, D.cells, TI.agg, TD.rowish, callOpV, moveL, CC, keepB, St.borrowL, St.borrow, D.isLsl, adoptR, adoptC, adoptCL, adoptL, adopt, List.toArray, Array.toList, Nat.reduceEqDiff, Nat.reduceAdd, Nat.reduceSub, Nat.reduceMul, Nat.reduceLeDiff, Nat.reduceLT, reduceIte, reduceCtorEq, forall_const, imp_self, Int.reduceNeg, Int.reduceLT, Int.reduceLE, Int.reduceGT, Int.reduceGE, Int.reduceAdd, Int.reduceSub, Int.reduceMul, Int.reduceToNat, Int.reduceEq, ne_eq, eq_self]
  · right
    obtain rfl : k = l.length := by omega
    have g0 : ¬ ((l.length : Nat) : Int) < l.length := by omega
    have e : l.take l.length = l := List.take_length
    simp only [st91, lp91_0, subC, atC, Tryd.f91, an91, g0, e, T3, T5, T33, T113, EL, e_finWf, e_finWt, e_finMN, e_finMX, retM, meltV, tupV, D.asBox, D.row1, D.freeR, D.freeO, List.replicate_succ, stepD, accs, accP, accW, simpleOp, isAl, isExt, flipD, D.fresh1, D.row, D.plain, D.plain.plainL, St.close, St.close1, St.borrow, retV, resV, resL, outCL, outC, outL, outD, wantedV, opV, An.mid, thawV, St.settle, D.plainU, prune, envOf, get, put, eval, evalT, nz, argsV, capsV, ofV, binV, binV.aggV, unV, intV, eqOp, isConst, natV, optV, loadV, loadC, storeV, setC, St.at_, partV, partTy, indexAddrV, fieldAddrV, sliceV, sliceV.rowSl, sliceV.strSl, bounds, cutP, builtinV, lenV, maxL, maxV, appendV, St.elems, roomy, rowOf, rowS, isStr, esz, tdOf, convV, buildV, fillV, partsV, okParts, fillL, D.whole, D.demoteC, D.demote, demoteL, D.global, D.flat, D.leaf, D.cells, TI.agg, TD.rowish, callOpV, moveL, CC, keepB, St.borrowL, St.borrow, D.isLsl, adoptR, adoptC, adoptCL, adoptL, adopt, List.toArray, Array.toList, Nat.reduceEqDiff, Nat.reduceAdd, Nat.reduceSub, Nat.reduceMul, Nat.reduceLeDiff, Nat.reduceLT, reduceIte, reduceCtorEq, forall_const, imp_self, Int.reduceNeg, Int.reduceLT, Int.reduceLE, Int.reduceGT, Int.reduceGE, Int.reduceAdd, Int.reduceSub, Int.reduceMul, Int.reduceToNat, Int.reduceEq, ne_eq, eq_self]
    exact ⟨_, _, rfl, by simp, rfl, _, rfl, rfl⟩

set_option maxRecDepth 10000 in
theorem run91 (hC : LibCrc C) (s : Nat) (hs : s < 4294967296) (l : List UInt8) (hl : l.length ≤ 1000000) (B : Hp) : runV T C fi91 [.int .u32 s, byV l .none] B = some (.int .u32 (moreS s l : Nat), B) := by
  rw [e_run _ _ _ rfl]
  have h1 := not_u32 hs
  have hlt := crc_lt l (v := 4294967295 - s) (by omega)
  have h2 := not_u32 hlt
  simp only [fi91, Tryd.f91, an91, h1, AL, T3, T5, T33, T113, EL, e_finWf, e_finWt, e_finMN, e_finMX, retM, meltV, tupV, D.asBox, D.row1, D.freeR, D.freeO, List.replicate_succ, stepD, accs, accP, accW, simpleOp, isAl, isExt, flipD, D.fresh1, D.row, D.plain, D.plain.plainL, St.close, St.close1, St.borrow, retV, resV, resL, outCL, outC, outL, outD, wantedV, opV, An.mid, thawV, St.settle, D.plainU, prune, envOf, get, put, eval, evalT, nz, argsV, capsV, ofV, binV, binV.aggV, unV, intV, eqOp, isConst, natV, optV, loadV, loadC, storeV, setC, St.at_, partV, partTy, indexAddrV, fieldAddrV, sliceV, sliceV.rowSl, sliceV.strSl, bounds, cutP, builtinV, lenV, maxL, maxV, appendV, St.elems, roomy, rowOf, rowS, isStr, esz, tdOf, convV, buildV, fillV, partsV, okParts, fillL, D.whole, D.demoteC, D.demote, demoteL, D.global, D.flat, D.leaf, D.cells, TI.agg, TD.rowish, callOpV, moveL, CC, keepB, St.borrowL, St.borrow, D.isLsl, adoptR, adoptC, adoptCL, adoptL, adopt, List.toArray, Array.toList, Nat.reduceEqDiff, Nat.reduceAdd, Nat.reduceSub, Nat.reduceMul, Nat.reduceLeDiff, Nat.reduceLT, reduceIte, reduceCtorEq, forall_const, imp_self, Int.reduceNeg, Int.reduceLT, Int.reduceLE, Int.reduceGT, Int.reduceGE, Int.reduceAdd, Int.reduceSub, Int.reduceMul, Int.reduceToNat, Int.reduceEq, ne_eq, eq_self]
  refine' in_loop (c' := lp91_0) (fin T _ _ _) ?h rfl ?q
  case h =>
    refine loop91 hC B (v := 4294967295 - s) (by omega) l hl _ ?_
    simp only [an91, ren_map, toks_map, boxes_map, st91, An.at_, tidyV, tidyW, tidyB, tidyT, sift, envBoxes, envToks, conToks, D.toks, D.tok1, toksL, D.boxes, D.box1, boxesL, memN, posN, renE, D.ren, D.ren1, renL, renB, St.content, St.boxOk, St.tokOk, trues, T3, T5, T33, T113, EL, e_finWf, e_finWt, e_finMN, e_finMX, retM, meltV, tupV, D.asBox, D.row1, D.freeR, D.freeO, List.replicate_succ, stepD, accs, accP, accW, simpleOp, isAl, isExt, flipD, D.fresh1, D.row, D.plain, D.plain.plainL, St.close, St.close1, St.borrow, retV, resV, resL, outCL, outC, outL, outD, wantedV, opV, An.mid, thawV, St.settle, D.plainU, prune, envOf, get, put, eval, evalT, nz, argsV, capsV, ofV, binV, binV.aggV, unV, intV, eqOp, isConst, natV, optV, loadV, loadC, storeV, setC, St.at_, partV, partTy, indexAddrV, fieldAddrV, sliceV, sliceV.rowSl, sliceV.strSl, bounds, cutP, builtinV, lenV, maxL, maxV, appendV, St.elems, roomy, rowOf, rowS, isStr, esz, tdOf, convV, buildV, fillV, partsV, okParts, fillL, D.whole, D.demoteC, D.demote, demoteL, D.global, D.flat, D.leaf, D.cells, TI.agg, TD.rowish, callOpV, moveL, CC, keepB, St.borrowL, St.borrow, D.isLsl, adoptR, adoptC, adoptCL, adoptL, adopt, List.toArray, Array.toList, Nat.reduceEqDiff, Nat.reduceAdd, Nat.reduceSub, Nat.reduceMul, Nat.reduceLeDiff, Nat.reduceLT, reduceIte, reduceCtorEq, forall_const, imp_self, Int.reduceNeg, Int.reduceLT, Int.reduceLE, Int.reduceGT, Int.reduceGE, Int.reduceAdd, Int.reduceSub, Int.reduceMul, Int.reduceToNat, Int.reduceEq, ne_eq, eq_self]
    rfl
  rintro x st' ⟨rfl, ρ, rfl, hg⟩
  simp only [hg, h2, moreS, T3, T5, T33, T113, EL, e_finWf, e_finWt, e_finMN, e_finMX, retM, meltV, tupV, D.asBox, D.row1, D.freeR, D.freeO, List.replicate_succ, stepD, accs, accP, accW, simpleOp, isAl, isExt, flipD, D.fresh1, D.row, D.plain, D.plain.plainL, St.close, St.close1, St.borrow, retV, resV, resL, outCL, outC, outL, outD, wantedV, opV, An.mid, thawV, St.settle, D.plainU, prune, envOf, get, put, eval, evalT, nz, argsV, capsV, ofV, binV, binV.aggV, unV, intV, eqOp, isConst, natV, optV, loadV, loadC, storeV, setC, St.at_, partV, partTy, indexAddrV, fieldAddrV, sliceV, sliceV.rowSl, sliceV.strSl, bounds, cutP, builtinV, lenV, maxL, maxV, appendV, St.elems, roomy, rowOf, rowS, isStr, esz, tdOf, convV, buildV, fillV, partsV, okParts, fillL, D.whole, D.demoteC, D.demote, demoteL, D.global, D.flat, D.leaf, D.cells, TI.agg, TD.rowish, callOpV, moveL, CC, keepB, St.borrowL, St.borrow, D.isLsl, adoptR, adoptC, adoptCL, adoptL, adopt, List.toArray, Array.toList, Nat.reduceEqDiff, Nat.reduceAdd, Nat.reduceSub, Nat.reduceMul, Nat.reduceLeDiff, Nat.reduceLT, reduceIte, reduceCtorEq, forall_const, imp_self, Int.reduceNeg, Int.reduceLT, Int.reduceLE, Int.reduceGT, Int.reduceGE, Int.reduceAdd, Int.reduceSub, Int.reduceMul, Int.reduceToNat, Int.reduceEq, ne_eq, eq_self]
theorem c91 (hC : LibCrc C) (s : Nat) (hs : s < 4294967296) (l : List UInt8) (hl : l.length ≤ 1000000) (B : Hp) : C 91 [.int .u32 s, .vec 1 (l.map byteD) .none] B = some (.int .u32 (moreS s l : Nat), B) := hC.f91 _ _ _ (run91 hC s hs l hl B)

set_option maxRecDepth 10000 in
theorem run75 (hC : LibCrc C) (l : List UInt8) (hl : l.length ≤ 1000000) (B : Hp) : runV T C fi75 [byV l .none] B = some (.int .u32 (moreS 0 l : Nat), B) := by
  rw [e_run _ _ _ rfl]
  have c1 : ∀ B, C 91 [.int .u32 0, .vec 1 (l.map byteD) .none] B = some (.int .u32 (moreS 0 l : Nat), B) := c91 hC 0 (by decide) l hl
  simp only [fi75, Tryd.f75, an75, c1, EL, e_finWf, e_finWt, e_finMN, e_finMX, retM, meltV, tupV, D.asBox, D.row1, D.freeR, D.freeO, List.replicate_succ, stepD, accs, accP, accW, simpleOp, isAl, isExt, flipD, D.fresh1, D.row, D.plain, D.plain.plainL, St.close, St.close1, St.borrow, retV, resV, resL, outCL, outC, outL, outD, wantedV, opV, An.mid, thawV, St.settle, D.plainU, prune, envOf, get, put, eval, evalT, nz, argsV, capsV, ofV, binV, binV.aggV, unV, intV, eqOp, isConst, natV, optV, loadV, loadC, storeV, setC, St.at_, partV, partTy, indexAddrV, fieldAddrV, sliceV, sliceV.rowSl, sliceV.strSl, bounds, cutP, builtinV, lenV, maxL, maxV, appendV, St.elems, roomy, rowOf, rowS, isStr, esz, tdOf, convV, buildV, fillV, partsV, okParts, fillL, D.whole, D.demoteC, D.demote, demoteL, D.global, D.flat, D.leaf, D.cells, TI.agg, TD.rowish, callOpV, moveL, CC, keepB, St.borrowL, St.borrow, D.isLsl, adoptR, adoptC, adoptCL, adoptL, adopt, List.toArray, Array.toList, Nat.reduceEqDiff, Nat.reduceAdd, Nat.reduceSub, Nat.reduceMul, Nat.reduceLeDiff, Nat.reduceLT, reduceIte, reduceCtorEq, forall_const, imp_self, Int.reduceNeg, Int.reduceLT, Int.reduceLE, Int.reduceGT, Int.reduceGE, Int.reduceAdd, Int.reduceSub, Int.reduceMul, Int.reduceToNat, Int.reduceEq, ne_eq, eq_self]
theorem c75 (hC : LibCrc C) (l : List UInt8) (hl : l.length ≤ 1000000) (B : Hp) : C 75 [.vec 1 (l.map byteD) .none] B = some (.int .u32 (moreS 0 l : Nat), B) := hC.f75 _ _ _ (run75 hC l hl B)

/-! ### The document's sums -/
def iterB : Nat → Nat → Nat
  | 0, v => v
  | n + 1, v => iterB n (bitN v)
theorem iterB_succ : ∀ (n v : Nat), iterB (n + 1) v = bitN (iterB n v)
  | 0, v => rfl
  | n + 1, v => by rw [iterB, iterB_succ n]; rfl
theorem iterB_8 (v c : Nat) : iterB 8 (v ^^^ c) = byteN v c := by
  unfold byteN
  rw [half_bit, half_bit]; rfl
theorem iterB_lt : ∀ (n : Nat) {v : Nat}, v < 4294967296 → iterB n v < 4294967296
  | 0, v, h => h
  | n + 1, v, h => iterB_lt n (bit_lt h)

def st76 (B : Hp) (v : Nat) (l : List UInt8) (k : Nat) : St := ⟨[(1, byV l .none), (5, .int .u32 (crcN v (l.take k) : Nat)), (6, .int .i64 k)], [], [], B⟩
def st76_1 (B : Hp) (u : Nat) (l : List UInt8) (k : Nat) (j : Nat) : St := ⟨[(1, byV l .none), (5, .int .u32 (iterB j u : Nat)), (6, .int .i64 k), (7, .int .i64 j)], [], [], B⟩

set_option maxRecDepth 10000 in
theorem loop76_1 (C : Callees) (B : Hp) {u : Nat} (hu : u < 4294967296) (l : List UInt8) (k : Nat) (st : St) (hst : an76.at_ (some 7) st = st76_1 B u l k 0) :
    ∃ x st', loopC T an76 C lp76_1 st = some (x, st') ∧ x = .exit 2 ∧ ∃ ρ, st' = ⟨ρ, [], [], B⟩ ∧ get ρ 1 = byV l .none ∧ get ρ 5 = .int .u32 (iterB 8 u : Nat) ∧ get ρ 6 = .int .i64 k := by
  refine loop_rule (st76_1 B u l k) (fun j => j ≤ 8) (fun j => 8 - j) _ ?_ 0 st hst (by omega)
  intro j hj
  rcases Nat.lt_or_ge j 8 with h | h
  · left
    refine ⟨j + 1, ?_, by omega, by omega⟩
    have g0 : (j : Int) < 8 := by omega
    have w1 : IntKind.i64.wrap ((j : Int) + 1) = ((j + 1 : Nat) : Int) := by rw [wrapI (by omega) (by omega)]; rfl
    have hv := iterB_lt j hu
    have hsucc := iterB_succ j u
    obtain ⟨v, hvj⟩ : ∃ v, iterB j u = v := ⟨_, rfl⟩
    rw [hvj] at hv hsucc
    have t1 := tmod2 v
    have d1 := tdiv2 v
    have w2 : IntKind.u32.wrap ((v / 2 : Nat) : Int) = ((v / 2 : Nat) : Int) := wrap_u32 (by omega) (by omega)
    have b1 : bitsV .xor .u32 ((v / 2 : Nat) : Int) 2197175160 = ((v / 2 ^^^ 2197175160 : Nat) : Int) := xor_u32 (by omega) (by decide)
    rcases Nat.mod_two_eq_zero_or_one v with hm | hm
    · have hb : bitN v = v / 2 := by unfold bitN; rw [if_neg (by omega), Nat.xor_zero]
      rw [hb] at hsucc
      have m1 : ¬ ((v % 2 : Nat) : Int) = 1 := by omega
      simp only [st76_1, lp76_1, subC, atC, Tryd.f76, an76, hvj, g0, w1, t1, d1, w2, m1, T3, T5, T33, T113, EL, e_finWf, e_finWt, e_finMN, e_finMX, retM, meltV, tupV, D.asBox, D.row1, D.freeR, D.freeO, List.replicate_succ, stepD, accs, accP, accW, simpleOp, isAl, isExt, flipD, D.fresh1, D.row, D.plain, D.plain.plainL, St.close, St.close1, St.borrow, retV, resV, resL, outCL, outC, outL, outD, wantedV, opV, An.mid, thawV, St.settle, D.plainU, prune, envOf, get, put, eval, evalT, nz, argsV, capsV, ofV, binV, binV.aggV, unV, intV, eqOp, isConst, natV, optV, loadV, loadC, storeV, setC, St.at_, partV, partTy, indexAddrV, fieldAddrV, sliceV, sliceV.rowSl, sliceV.strSl, bounds, cutP, builtinV, lenV, maxL, maxV, appendV, St.elems, roomy, rowOf, rowS, isStr, esz, tdOf, convV, buildV, fillV, partsV, okParts, fillL, D.whole, D.demoteC, D.demote, demoteL, D.global, D.flat, D.leaf, D.cells, TI.agg, TD.rowish, callOpV, moveL, CC, keepB, St.borrowL, St.borrow, D.isLsl, adoptR, adoptC, adoptCL, adoptL, adopt, List.toArray, Array.toList, Nat.reduceEqDiff, Nat.reduceAdd, Nat.reduceSub, Nat.reduceMul, Nat.reduceLeDiff, Nat.reduceLT, reduceIte, reduceCtorEq, forall_const, imp_self, Int.reduceNeg, Int.reduceLT, Int.reduceLE, Int.reduceGT, Int.reduceGE, Int.reduceAdd, Int.reduceSub, Int.reduceMul, Int.reduceToNat, Int.reduceEq, ne_eq, eq_self]
      refine ⟨_, rfl, ?_⟩
      show an76.at_ (some 7) _ = _
      simp only [an76, ren_map, toks_map, boxes_map, hsucc, An.at_, tidyV, tidyW, tidyB, tidyT, sift, envBoxes, envToks, conToks, D.toks, D.tok1, toksL, D.boxes, D.box1, boxesL, memN, posN, renE, D.ren, D.ren1, renL, renB, St.content, St.boxOk, St.tokOk, trues, T3, T5, T33, T113, EL, e_finWf, e_finWt, e_finMN, e_finMX, retM, meltV, tupV, D.asBox, D.row1, D.freeR, D.freeO, List.replicate_succ, stepD, accs, accP, accW, simpleOp, isAl, isExt, flipD, D.fresh1, D.row, D.plain, D.plain.plainL, St.close, St.close1, St.borrow, retV, resV, resL, outCL, outC, outL, outD, wantedV, opV, An.mid, thawV, St.settle, D.plainU, prune, envOf, get, put, eval, evalT, nz, argsV, capsV, ofV, binV, binV.aggV, unV, intV, eqOp, isConst, natV, optV, loadV, loadC, storeV, setC, St.at_, partV, partTy, indexAddrV, fieldAddrV, sliceV, sliceV.rowSl, sliceV.strSl, bounds, cutP, builtinV, lenV, maxL, maxV, appendV, St.elems, roomy, rowOf, rowS, isStr, esz, tdOf, convV, buildV, fillV, partsV, okParts, fillL, D.whole, D.demoteC, D.demote, demoteL, D.global, D.flat, D.leaf, D.cells, TI.agg, TD.rowish, callOpV, moveL, CC, keepB, St.borrowL, St.borrow, D.isLsl, adoptR, adoptC, adoptCL, adoptL, adopt, List.toArray, Array.toList, Nat.reduceEqDiff, Nat.reduceAdd, Nat.reduceSub, Nat.reduceMul, Nat.reduceLeDiff, Nat.reduceLT, reduceIte, reduceCtorEq, forall_const, imp_self, Int.reduceNeg, Int.reduceLT, Int.reduceLE, Int.reduceGT, Int.reduceGE, Int.reduceAdd, Int.reduceSub, Int.reduceMul, Int.reduceToNat, Int.reduceEq, ne_eq, eq_self]
    · have hb : bitN v = v / 2 ^^^ 2197175160 := by unfold bitN; rw [if_pos hm]; rfl
      rw [hb] at hsucc
      have m1 : ((v % 2 : Nat) : Int) = 1 := by omega
      simp only [st76_1, lp76_1, subC, atC, Tryd.f76, an76, hvj, g0, w1, t1, d1, w2, m1, b1, T3, T5, T33, T113, EL, e_finWf, e_finWt, e_finMN, e_finMX, retM, meltV, tupV, D.asBox, D.row1, D.freeR, D.freeO, List.replicate_succ, stepD, accs, accP, accW, simpleOp, isAl, isExt, flipD, D.fresh1, D.row, D.plain, D.plain.plainL, St.close, St.close1, St.borrow, retV, resV, resL, outCL, outC, outL, outD, wantedV, opV, An.mid, thawV, St.settle, D.plainU, prune, envOf, get, put, eval, evalT, nz, argsV, capsV, ofV, binV, binV.aggV, unV, intV, eqOp, isConst, natV, optV, loadV, loadC, storeV, setC, St.at_, partV, partTy, indexAddrV, fieldAddrV, sliceV, sliceV.rowSl, sliceV.strSl, bounds, cutP, builtinV, lenV, maxL, maxV, appendV, St.elems, roomy, rowOf, rowS, isStr, esz, tdOf, convV, buildV, fillV, partsV, okParts, fillL, D.whole, D.demoteC, D.demote, demoteL, D.global, D.flat, D.leaf, D.cells, TI.agg, TD.rowish, callOpV, moveL, CC, keepB, St.borrowL, St.borrow, D.isLsl, adoptR, adoptC, adoptCL, adoptL, adopt, List.toArray, Array.toList, Nat.reduceEqDiff, Nat.reduceAdd, Nat.reduceSub, Nat.reduceMul, Nat.reduceLeDiff, Nat.reduceLT, reduceIte, reduceCtorEq, forall_const, imp_self, Int.reduceNeg, Int.reduceLT, Int.reduceLE, Int.reduceGT, Int.reduceGE, Int.reduceAdd, Int.reduceSub, Int.reduceMul, Int.reduceToNat, Int.reduceEq, ne_eq, eq_self]
      refine ⟨_, rfl, ?_⟩
      show an76.at_ (some 7) _ = _
      simp only [an76, ren_map, toks_map, boxes_map, hsucc, An.at_, tidyV, tidyW, tidyB, tidyT, sift, envBoxes, envToks, conToks, D.toks, D.tok1, toksL, D.boxes, D.box1, boxesL, memN, posN, renE, D.ren, D.ren1, renL, renB, St.content, St.boxOk, St.tokOk, trues, T3, T5, T33, T113, EL, e_finWf, e_finWt, e_finMN, e_finMX, retM, meltV, tupV, D.asBox, D.row1, D.freeR, D.freeO, List.replicate_succ, stepD, accs, accP, accW, simpleOp, isAl, isExt, flipD, D.fresh1, D.row, D.plain, D.plain.plainL, St.close, St.close1, St.borrow, retV, resV, resL, outCL, outC, outL, outD, wantedV, opV, An.mid, thawV, St.settle, D.plainU, prune, envOf, get, put, eval, evalT, nz, argsV, capsV, ofV, binV, binV.aggV, unV, intV, eqOp, isConst, natV, optV, loadV, loadC, storeV, setC, St.at_, partV, partTy, indexAddrV, fieldAddrV, sliceV, sliceV.rowSl, sliceV.strSl, bounds, cutP, builtinV, lenV, maxL, maxV, appendV, St.elems, roomy, rowOf, rowS, isStr, esz, tdOf, convV, buildV, fillV, partsV, okParts, fillL, D.whole, D.demoteC, D.demote, demoteL, D.global, D.flat, D.leaf, D.cells, TI.agg, TD.rowish, callOpV, moveL, CC, keepB, St.borrowL, St.borrow, D.isLsl, adoptR, adoptC, adoptCL, adoptL, adopt, List.toArray, Array.toList, Nat.reduceEqDiff, Nat.reduceAdd, Nat.reduceSub, Nat.reduceMul, Nat.reduceLeDiff, Nat.reduceLT, reduceIte, reduceCtorEq, forall_const, imp_self, Int.reduceNeg, Int.reduceLT, Int.reduceLE, Int.reduceGT, Int.reduceGE, Int.reduceAdd, Int.reduceSub, Int.reduceMul, Int.reduceToNat, Int.reduceEq, ne_eq, eq_self]
  · right
    obtain rfl : j = 8 := by omega
    have g0 : ¬ ((8 : Nat) : Int) < 8 := by omega
    simp only [st76_1, lp76_1, subC, atC, Tryd.f76, an76, g0, T3, T5, T33, T113, EL, e_finWf, e_finWt, e_finMN, e_finMX, retM, meltV, tupV, D.asBox, D.row1, D.freeR, D.freeO, List.replicate_succ, stepD, accs, accP, accW, simpleOp, isAl, isExt, flipD, D.fresh1, D.row, D.plain, D.plain.plainL, St.close, St.close1, St.borrow, retV, resV, resL, outCL, outC, outL, outD, wantedV, opV, An.mid, thawV, St.settle, D.plainU, prune, envOf, get, put, eval, evalT, nz, argsV, capsV, ofV, binV, binV.aggV, unV, intV, eqOp, isConst, natV, optV, loadV, loadC, storeV, setC, St.at_, partV, partTy, indexAddrV, fieldAddrV, sliceV, sliceV.rowSl, sliceV.strSl, bounds, cutP, builtinV, lenV, maxL, maxV, appendV, St.elems, roomy, rowOf, rowS, isStr, esz, tdOf, convV, buildV, fillV, partsV, okParts, fillL, D.whole, D.demoteC, D.demote, demoteL, D.global, D.flat, D.leaf, D.cells, TI.agg, TD.rowish, callOpV, moveL, CC, keepB, St.borrowL, St.borrow, D.isLsl, adoptR, adoptC, adoptCL, adoptL, adopt, List.toArray, Array.toList, Nat.reduceEqDiff, Nat.reduceAdd, Nat.reduceSub, Nat.reduceMul, Nat.reduceLeDiff, Nat.reduceLT, reduceIte, reduceCtorEq, forall_const, imp_self, Int.reduceNeg, Int.reduceLT, Int.reduceLE, Int.reduceGT, Int.reduceGE, Int.reduceAdd, Int.reduceSub, Int.reduceMul, Int.reduceToNat, Int.reduceEq, ne_eq, eq_self]
    exact ⟨_, _, rfl, by simp, rfl, _, rfl, rfl, rfl, rfl⟩

set_option maxRecDepth 10000 in
theorem loop76 (C : Callees) (B : Hp) {v : Nat} (hv : v < 4294967296) (l : List UInt8) (hl : l.length ≤ 1000000) (st : St) (hst : an76.at_ (some 3) st = st76 B v l 0) :
    ∃ x st', loopC T an76 C lp76_0 st = some (x, st') ∧ x = .exit 0 ∧ ∃ ρ, st' = ⟨ρ, [], [], B⟩ ∧ get ρ 5 = .int .u32 (crcN v l : Nat) := by
  refine loop_rule (st76 B v l) (fun k => k ≤ l.length) (fun k => l.length - k) _ ?_ 0 st hst (Nat.zero_le _)
  intro k hk
  rcases Nat.lt_or_ge k l.length with h | h
  · left
    refine ⟨k + 1, ?_, by omega, by omega⟩
    have hc := List.getElem?_eq_getElem h
    generalize l[k] = c at hc
    have hcl := c.toNat_lt
    have ht := crc_take (v := v) hc
    have hlt := crc_lt (l.take k) hv
    have g0 : (k : Int) < l.length := by omega
    have g1 : (0 : Int) ≤ k := by omega
    have g2 : (l.map byteD)[k]? = some (.int .u8 c.toNat) := by rw [List.getElem?_map, hc]; rfl
    have w1 : IntKind.i64.wrap ((k : Int) + 1) = ((k + 1 : Nat) : Int) := by rw [wrapI (by omega) (by omega)]; rfl
    have w2 : IntKind.u32.wrap (c.toNat : Int) = c.toNat := wrap_u32 (by omega) (by omega)
    have b1 := xor_u32 (a := crcN v (l.take k)) (b := c.toNat) hlt (by omega)
    have hx := Nat.xor_lt_two_pow (n := 32) hlt (by omega : c.toNat < 2 ^ 32)
    simp only [st76, lp76_0, subC, atC, Tryd.f76, an76, g0, g1, g2, w2, b1, AL, T3, T5, T33, T113, EL, e_finWf, e_finWt, e_finMN, e_finMX, retM, meltV, tupV, D.asBox, D.row1, D.freeR, D.freeO, List.replicate_succ, stepD, accs, accP, accW, simpleOp, isAl, isExt, flipD, D.fresh1, D.row, D.plain, D.plain.plainL, St.close, St.close1, St.borrow, retV, resV, resL, outCL, outC, outL, outD, wantedV, opV, An.mid, thawV, St.settle, D.plainU, prune, envOf, get, put, eval, evalT, nz, argsV, capsV, ofV, binV, binV.aggV, unV, intV, eqOp, isConst, natV, optV, loadV, loadC, storeV, setC, St.at_, partV, partTy, indexAddrV, fieldAddrV, sliceV, sliceV.rowSl, sliceV.strSl, bounds, cutP, builtinV, lenV, maxL, maxV, appendV, St.elems, roomy, rowOf, rowS, isStr, esz, tdOf, convV, buildV, fillV, partsV, okParts, fillL, D.whole, D.demoteC, D.demote, demoteL, D.global, D.flat, D.leaf, D.cells, TI.agg, TD.rowish, callOpV, moveL, CC, keepB, St.borrowL, St.borrow, D.isLsl, adoptR, adoptC, adoptCL, adoptL, adopt, List.toArray, Array.toList, Nat.reduceEqDiff, Nat.reduceAdd, Nat.reduceSub, Nat.reduceMul, Nat.reduceLeDiff, Nat.reduceLT, reduceIte, reduceCtorEq, forall_const, imp_self, Int.reduceNeg, Int.reduceLT, Int.reduceLE, Int.reduceGT, Int.reduceGE, Int.reduceAdd, Int.reduceSub, Int.reduceMul, Int.reduceToNat, Int.reduceEq, ne_eq, eq_self]
    generalize hr : loopC T _ C _ _ = r
    obtain ⟨x, st', rfl, hx⟩ := nest hr (loop76_1 C B (u := crcN v (l.take k) ^^^ c.toNat) hx l k _ (by
      clear hr
      simp only [an76, ren_map, toks_map, boxes_map, st76_1, An.at_, tidyV, tidyW, tidyB, tidyT, sift, envBoxes, envToks, conToks, D.toks, D.tok1, toksL, D.boxes, D.box1, boxesL, memN, posN, renE, D.ren, D.ren1, renL, renB, St.content, St.boxOk, St.tokOk, trues, T3, T5, T33, T113, EL, e_finWf, e_finWt, e_finMN, e_finMX, retM, meltV, tupV, D.asBox, D.row1, D.freeR, D.freeO, List.replicate_succ, stepD, accs, accP, accW, simpleOp, isAl, isExt, flipD, D.fresh1, D.row, D.plain, D.plain.plainL, St.close, St.close1, St.borrow, retV, resV, resL, outCL, outC, outL, outD, wantedV, opV, An.mid, thawV, St.settle, D.plainU, prune, envOf, get, put, eval, evalT, nz, argsV, capsV, ofV, binV, binV.aggV, unV, intV, eqOp, isConst, natV, optV, loadV, loadC, storeV, setC, St.at_, partV, partTy, indexAddrV, fieldAddrV, sliceV, sliceV.rowSl, sliceV.strSl, bounds, cutP, builtinV, lenV, maxL, maxV, appendV, St.elems, roomy, rowOf, rowS, isStr, esz, tdOf, convV, buildV, fillV, partsV, okParts, fillL, D.whole, D.demoteC, D.demote, demoteL, D.global, D.flat, D.leaf, D.cells, TI.agg, TD.rowish, callOpV, moveL, CC, keepB, St.borrowL, St.borrow, D.isLsl, adoptR, adoptC, adoptCL, adoptL, adopt, List.toArray, Array.toList, Nat.reduceEqDiff, Nat.reduceAdd, Nat.reduceSub, Nat.reduceMul, Nat.reduceLeDiff, Nat.reduceLT, reduceIte, reduceCtorEq, forall_const, imp_self, Int.reduceNeg, Int.reduceLT, Int.reduceLE, Int.reduceGT, Int.reduceGE, Int.reduceAdd, Int.reduceSub, Int.reduceMul, Int.reduceToNat, Int.reduceEq, ne_eq, eq_self]
      rfl)) rfl
    clear hr
    obtain ⟨rfl, ρ, rfl, h1, h2, h3⟩ := hx
    rw [iterB_8, ← ht] at h2
    simp only [h1, h2, h3, w1, T3, T5, T33, T113, EL, e_finWf, e_finWt, e_finMN, e_finMX, retM, meltV, tupV, D.asBox, D.row1, D.freeR, D.freeO, List.replicate_succ, stepD, accs, accP, accW, simpleOp, isAl, isExt, flipD, D.fresh1, D.row, D.plain, D.plain.plainL, St.close, St.close1, St.borrow, retV, resV, resL, outCL, outC, outL, outD, wantedV, opV, An.mid, thawV, St.settle, D.plainU, prune, envOf, get, put, eval, evalT, nz, argsV, capsV, ofV, binV, binV.aggV, unV, intV, eqOp, isConst, natV, optV, loadV, loadC, storeV, setC, St.at_, partV, partTy, indexAddrV, fieldAddrV, sliceV, sliceV.rowSl, sliceV.strSl, bounds, cutP, builtinV, lenV, maxL, maxV, appendV, St.elems, roomy, rowOf, rowS, isStr, esz, tdOf, convV, buildV, fillV, partsV, okParts, fillL, D.whole, D.demoteC, D.demote, demoteL, D.global, D.flat, D.leaf, D.cells, TI.agg, TD.rowish, callOpV, moveL, CC, keepB, St.borrowL, St.borrow, D.isLsl, adoptR, adoptC, adoptCL, adoptL, adopt, List.toArray, Array.toList, Nat.reduceEqDiff, Nat.reduceAdd, Nat.reduceSub, Nat.reduceMul, Nat.reduceLeDiff, Nat.reduceLT, reduceIte, reduceCtorEq, forall_const, imp_self, Int.reduceNeg, Int.reduceLT, Int.reduceLE, Int.reduceGT, Int.reduceGE, Int.reduceAdd, Int.reduceSub, Int.reduceMul, Int.reduceToNat, Int.reduceEq, ne_eq, eq_self]
    refine ⟨_, rfl, ?_⟩
    show an76.at_ (some 3) _ = _
    simp only [an76, ren_map, toks_map, boxes_map, st76, h1, h2, h3, An.at_, tidyV, tidyW, tidyB, tidyT, sift, envBoxes, envToks, conToks, D.toks, D.tok1, toksL, D.boxes, D.box1, boxesL, memN, posN, renE, D.ren, D.ren1, renL, renB, St.content, St.boxOk, St.tokOk, trues, T3, T5, T33, T113, EL, e_finWf, e_finWt, e_finMN, e_finMX, retM, meltV, tupV, D.asBox, D.row1, D.freeR, D.freeO, List.replicate_succ, stepD, accs, accP, accW, simpleOp, isAl, isExt, flipD, D.fresh1, D.row, D.plain, D.plain.plainL, St.close, St.close1, St.borrow, retV, resV, resL, outCL, outC, outL, outD, wantedV, opV, An.mid, thawV, St.settle, D.plainU, prune, envOf, get, put, eval, evalT, nz, argsV, capsV, ofV, binV, binV.aggV, unV, intV, eqOp, isConst, natV, optV, loadV, loadC, storeV, setC, St.at_, partV, partTy, indexAddrV, fieldAddrV, sliceV, sliceV.rowSl, sliceV.strSl, bounds, cutP, builtinV, lenV, maxL, maxV, appendV, St.elems, roomy, rowOf, rowS, isStr, esz, tdOf, convV, buildV, fillV, partsV, okParts, fillL, D.whole, D.demoteC, D.demote, demoteL, D.global, D.flat, D.leaf, D.cells, TI.agg, TD.rowish, callOpV, moveL, CC, keepB, St.borrowL, St.borrow, D.isLsl, adoptR, adoptC, adoptCL, adoptL, adopt, List.toArray, Array.toList, Nat.reduceEqDiff, Nat.reduceAdd, Nat.reduceSub, Nat.reduceMul, Nat.reduceLeDiff, Nat.reduceLT, reduceIte, reduceCtorEq, forall_const, imp_self, Int.reduceNeg, Int.reduceLT, Int.reduceLE, Int.reduceGT, Int.reduceGE, Int.reduceAdd, Int.reduceSub, Int.reduceMul, Int.reduceToNat, Int.reduceEq, ne_eq, eq_self]
  · right
    obtain rfl : k = l.length := by omega
    have g0 : ¬ ((l.length : Nat) : Int) < l.length := by omega
    have e : l.take l.length = l := List.take_length
    simp only [st76, lp76_0, subC, atC, Tryd.f76, an76, g0, e, T3, T5, T33, T113, EL, e_finWf, e_finWt, e_finMN, e_finMX, retM, meltV, tupV, D.asBox, D.row1, D.freeR, D.freeO, List.replicate_succ, stepD, accs, accP, accW, simpleOp, isAl, isExt, flipD, D.fresh1, D.row, D.plain, D.plain.plainL, St.close, St.close1, St.borrow, retV, resV, resL, outCL, outC, outL, outD, wantedV, opV, An.mid, thawV, St.settle, D.plainU, prune, envOf, get, put, eval, evalT, nz, argsV, capsV, ofV, binV, binV.aggV, unV, intV, eqOp, isConst, natV, optV, loadV, loadC, storeV, setC, St.at_, partV, partTy, indexAddrV, fieldAddrV, sliceV, sliceV.rowSl, sliceV.strSl, bounds, cutP, builtinV, lenV, maxL, maxV, appendV, St.elems, roomy, rowOf, rowS, isStr, esz, tdOf, convV, buildV, fillV, partsV, okParts, fillL, D.whole, D.demoteC, D.demote, demoteL, D.global, D.flat, D.leaf, D.cells, TI.agg, TD.rowish, callOpV, moveL, CC, keepB, St.borrowL, St.borrow, D.isLsl, adoptR, adoptC, adoptCL, adoptL, adopt, List.toArray, Array.toList, Nat.reduceEqDiff, Nat.reduceAdd, Nat.reduceSub, Nat.reduceMul, Nat.reduceLeDiff, Nat.reduceLT, reduceIte, reduceCtorEq, forall_const, imp_self, Int.reduceNeg, Int.reduceLT, Int.reduceLE, Int.reduceGT, Int.reduceGE, Int.reduceAdd, Int.reduceSub, Int.reduceMul, Int.reduceToNat, Int.reduceEq, ne_eq, eq_self]
    exact ⟨_, _, rfl, by simp, rfl, _, rfl, rfl⟩

set_option maxRecDepth 10000 in
theorem run76 (C : Callees) (s : Nat) (hs : s < 4294967296) (l : List UInt8) (hl : l.length ≤ 1000000) (B : Hp) : runV T C fi76 [.int .u32 s, byV l .none] B = some (.int .u32 (moreS s l : Nat), B) := by
  rw [e_run _ _ _ rfl]
  have hlt := crc_lt l (v := 4294967295 - s) (by omega)
  have w1 : IntKind.u32.wrap (4294967295 - (s : Int)) = ((4294967295 - s : Nat) : Int) := by rw [wrap_u32 (by omega) (by omega)]; omega
  have w2 : IntKind.u32.wrap (4294967295 - ((crcN (4294967295 - s) l : Nat) : Int)) = ((4294967295 - crcN (4294967295 - s) l : Nat) : Int) := by rw [wrap_u32 (by omega) (by omega)]; omega
  simp only [fi76, Tryd.f76, an76, w1, AL, T3, T5, T33, T113, EL, e_finWf, e_finWt, e_finMN, e_finMX, retM, meltV, tupV, D.asBox, D.row1, D.freeR, D.freeO, List.replicate_succ, stepD, accs, accP, accW, simpleOp, isAl, isExt, flipD, D.fresh1, D.row, D.plain, D.plain.plainL, St.close, St.close1, St.borrow, retV, resV, resL, outCL, outC, outL, outD, wantedV, opV, An.mid, thawV, St.settle, D.plainU, prune, envOf, get, put, eval, evalT, nz, argsV, capsV, ofV, binV, binV.aggV, unV, intV, eqOp, isConst, natV, optV, loadV, loadC, storeV, setC, St.at_, partV, partTy, indexAddrV, fieldAddrV, sliceV, sliceV.rowSl, sliceV.strSl, bounds, cutP, builtinV, lenV, maxL, maxV, appendV, St.elems, roomy, rowOf, rowS, isStr, esz, tdOf, convV, buildV, fillV, partsV, okParts, fillL, D.whole, D.demoteC, D.demote, demoteL, D.global, D.flat, D.leaf, D.cells, TI.agg, TD.rowish, callOpV, moveL, CC, keepB, St.borrowL, St.borrow, D.isLsl, adoptR, adoptC, adoptCL, adoptL, adopt, List.toArray, Array.toList, Nat.reduceEqDiff, Nat.reduceAdd, Nat.reduceSub, Nat.reduceMul, Nat.reduceLeDiff, Nat.reduceLT, reduceIte, reduceCtorEq, forall_const, imp_self, Int.reduceNeg, Int.reduceLT, Int.reduceLE, Int.reduceGT, Int.reduceGE, Int.reduceAdd, Int.reduceSub, Int.reduceMul, Int.reduceToNat, Int.reduceEq, ne_eq, eq_self]
  refine' in_loop (c' := lp76_0) (fin T _ _ _) ?h rfl ?q
  case h =>
    refine loop76 C B (v := 4294967295 - s) (by omega) l hl _ ?_
    simp only [an76, ren_map, toks_map, boxes_map, st76, An.at_, tidyV, tidyW, tidyB, tidyT, sift, envBoxes, envToks, conToks, D.toks, D.tok1, toksL, D.boxes, D.box1, boxesL, memN, posN, renE, D.ren, D.ren1, renL, renB, St.content, St.boxOk, St.tokOk, trues, T3, T5, T33, T113, EL, e_finWf, e_finWt, e_finMN, e_finMX, retM, meltV, tupV, D.asBox, D.row1, D.freeR, D.freeO, List.replicate_succ, stepD, accs, accP, accW, simpleOp, isAl, isExt, flipD, D.fresh1, D.row, D.plain, D.plain.plainL, St.close, St.close1, St.borrow, retV, resV, resL, outCL, outC, outL, outD, wantedV, opV, An.mid, thawV, St.settle, D.plainU, prune, envOf, get, put, eval, evalT, nz, argsV, capsV, ofV, binV, binV.aggV, unV, intV, eqOp, isConst, natV, optV, loadV, loadC, storeV, setC, St.at_, partV, partTy, indexAddrV, fieldAddrV, sliceV, sliceV.rowSl, sliceV.strSl, bounds, cutP, builtinV, lenV, maxL, maxV, appendV, St.elems, roomy, rowOf, rowS, isStr, esz, tdOf, convV, buildV, fillV, partsV, okParts, fillL, D.whole, D.demoteC, D.demote, demoteL, D.global, D.flat, D.leaf, D.cells, TI.agg, TD.rowish, callOpV, moveL, CC, keepB, St.borrowL, St.borrow, D.isLsl, adoptR, adoptC, adoptCL, adoptL, adopt, List.toArray, Array.toList, Nat.reduceEqDiff, Nat.reduceAdd, Nat.reduceSub, Nat.reduceMul, Nat.reduceLeDiff, Nat.reduceLT, reduceIte, reduceCtorEq, forall_const, imp_self, Int.reduceNeg, Int.reduceLT, Int.reduceLE, Int.reduceGT, Int.reduceGE, Int.reduceAdd, Int.reduceSub, Int.reduceMul, Int.reduceToNat, Int.reduceEq, ne_eq, eq_self]
    rfl
  rintro x st' ⟨rfl, ρ, rfl, hg⟩
  simp only [hg, w2, moreS, T3, T5, T33, T113, EL, e_finWf, e_finWt, e_finMN, e_finMX, retM, meltV, tupV, D.asBox, D.row1, D.freeR, D.freeO, List.replicate_succ, stepD, accs, accP, accW, simpleOp, isAl, isExt, flipD, D.fresh1, D.row, D.plain, D.plain.plainL, St.close, St.close1, St.borrow, retV, resV, resL, outCL, outC, outL, outD, wantedV, opV, An.mid, thawV, St.settle, D.plainU, prune, envOf, get, put, eval, evalT, nz, argsV, capsV, ofV, binV, binV.aggV, unV, intV, eqOp, isConst, natV, optV, loadV, loadC, storeV, setC, St.at_, partV, partTy, indexAddrV, fieldAddrV, sliceV, sliceV.rowSl, sliceV.strSl, bounds, cutP, builtinV, lenV, maxL, maxV, appendV, St.elems, roomy, rowOf, rowS, isStr, esz, tdOf, convV, buildV, fillV, partsV, okParts, fillL, D.whole, D.demoteC, D.demote, demoteL, D.global, D.flat, D.leaf, D.cells, TI.agg, TD.rowish, callOpV, moveL, CC, keepB, St.borrowL, St.borrow, D.isLsl, adoptR, adoptC, adoptCL, adoptL, adopt, List.toArray, Array.toList, Nat.reduceEqDiff, Nat.reduceAdd, Nat.reduceSub, Nat.reduceMul, Nat.reduceLeDiff, Nat.reduceLT, reduceIte, reduceCtorEq, forall_const, imp_self, Int.reduceNeg, Int.reduceLT, Int.reduceLE, Int.reduceGT, Int.reduceGE, Int.reduceAdd, Int.reduceSub, Int.reduceMul, Int.reduceToNat, Int.reduceEq, ne_eq, eq_self]
theorem c76 (hC : LibCrc C) (s : Nat) (hs : s < 4294967296) (l : List UInt8) (hl : l.length ≤ 1000000) (B : Hp) : C 76 [.int .u32 s, .vec 1 (l.map byteD) .none] B = some (.int .u32 (moreS s l : Nat), B) := hC.f76 _ _ _ (run76 C s hs l hl B)

/-! ### Whether the last four are the sum -/
def be4 (a b c d : Nat) : Nat := ((a * 256 + b) * 256 + c) * 256 + d

def isL (l : List UInt8) : Bool := decide (4 ≤ l.length) && beN 0 (l.drop (l.length - 4)) == moreS 0 (l.take (l.length - 4))

theorem isL_four (x : List UInt8) (a b c d : UInt8) : isL (x ++ [a, b, c, d]) = (be4 a.toNat b.toNat c.toNat d.toNat == moreS 0 x) := by
  have h : (x ++ [a, b, c, d]).length - 4 = x.length := by simp
  unfold isL
  rw [h, List.drop_left, List.take_left]
  have h2 : decide (4 ≤ (x ++ [a, b, c, d]).length) = true := by simp
  rw [h2, Bool.true_and]
  simp [beN, be4]

theorem four_of {l : List UInt8} (h : 4 ≤ l.length) : ∃ x a b c d, l = x ++ [a, b, c, d] := by
  have h1 := List.take_append_drop (l.length - 4) l
  have h2 : (l.drop (l.length - 4)).length = 4 := by simp; omega
  generalize l.drop (l.length - 4) = r at h1 h2
  match r, h2 with
  | [a, b, c, d], _ => exact ⟨_, a, b, c, d, h1.symm⟩


set_option maxRecDepth 10000 in
theorem run77 (hC : LibCrc C) (l : List UInt8) (hl : l.length ≤ 1000000) (B : Hp) : runV T C fi77 [byV l .none] B = some (.bool (isL l), B) := by
  rw [e_run _ _ _ rfl]
  by_cases h4 : 4 ≤ l.length
  · obtain ⟨x, a, b, c, e, rfl⟩ := four_of h4
    have hx : (x ++ [a, b, c, e]).length = x.length + 4 := by simp
    rw [hx] at hl
    have w1 : IntKind.i64.wrap (((x.length + 4 : Nat) : Int) - 4) = x.length := by rw [wrapI (by omega) (by omega)]; omega
    have w2 : ¬ (x.length : Int) < 0 := by omega
    have w3 : (0 : Int) ≤ x.length := by omega
    have e1 : (x ++ [a, b, c, e]).drop x.length = [a, b, c, e] := List.drop_left
    have e2 : (x ++ [a, b, c, e]).take x.length = x := List.take_left
    have e3 : (x ++ [a, b, c, e]).take (x.length + 4) = x ++ [a, b, c, e] := List.take_of_length_le (by simp)
    have hb : be4 a.toNat b.toNat c.toNat e.toNat < 4294967296 := by
      have := a.toNat_lt; have := b.toNat_lt; have := c.toNat_lt; have := e.toNat_lt
      unfold be4; omega
    have h1 : ∀ B, C 92 [.vec 1 [byteD a, byteD b, byteD c, byteD e] .none] B = some (.tuple [.int .u64 (be4 a.toNat b.toNat c.toNat e.toNat : Nat), .nili], B) := fun B => by
      have := i92 hC.toLibIntC [a, b, c, e] B
      simp only [List.map_cons, List.map_nil] at this
      rw [this]
      simp [getS, beN, be4, errD]
    have h2 := c75 hC x (by omega)
    have h3 : IntKind.u32.wrap (be4 a.toNat b.toNat c.toNat e.toNat : Nat) = (be4 a.toNat b.toNat c.toNat e.toNat : Nat) := wrap_u32 (by omega) (by omega)
    have q1 : x.length ≤ x.length + 4 := by omega
    rw [isL_four]
    generalize be4 a.toNat b.toNat c.toNat e.toNat = u at h1 h3 ⊢
    generalize moreS 0 x = s at h2 ⊢
    have h5 : decide ((u : Int) = (s : Int)) = (u == s) := by
      rw [Bool.eq_iff_iff]; simp [Int.natCast_inj]
    simp only [fi77, Tryd.f77, an77, hx, w1, w2, w3, e1, e2, e3, h1, h2, h3, h5, q1, Int.toNat_natCast, T3, T5, T24, T33, T66, T113, EL, e_finWf, e_finWt, e_finMN, e_finMX, retM, meltV, tupV, D.asBox, D.row1, D.freeR, D.freeO, List.replicate_succ, stepD, accs, accP, accW, simpleOp, isAl, isExt, flipD, D.fresh1, D.row, D.plain, D.plain.plainL, St.close, St.close1, St.borrow, retV, resV, resL, outCL, outC, outL, outD, wantedV, opV, An.mid, thawV, St.settle, D.plainU, prune, envOf, get, put, eval, evalT, nz, argsV, capsV, ofV, binV, binV.aggV, unV, intV, eqOp, isConst, natV, optV, loadV, loadC, storeV, setC, St.at_, partV, partTy, indexAddrV, fieldAddrV, sliceV, sliceV.rowSl, sliceV.strSl, bounds, cutP, builtinV, lenV, maxL, maxV, appendV, St.elems, roomy, rowOf, rowS, isStr, esz, tdOf, convV, buildV, fillV, partsV, okParts, fillL, D.whole, D.demoteC, D.demote, demoteL, D.global, D.flat, D.leaf, D.cells, TI.agg, TD.rowish, callOpV, moveL, CC, keepB, St.borrowL, St.borrow, D.isLsl, adoptR, adoptC, adoptCL, adoptL, adopt, List.toArray, Array.toList, Nat.reduceEqDiff, Nat.reduceAdd, Nat.reduceSub, Nat.reduceMul, Nat.reduceLeDiff, Nat.reduceLT, reduceIte, reduceCtorEq, forall_const, imp_self, Int.reduceNeg, Int.reduceLT, Int.reduceLE, Int.reduceGT, Int.reduceGE, Int.reduceAdd, Int.reduceSub, Int.reduceMul, Int.reduceToNat, Int.reduceEq, ne_eq, eq_self]
  · have hb : isL l = false := by simp [isL, h4]
    have w1 : IntKind.i64.wrap ((l.length : Int) - 4) = (l.length : Int) - 4 := wrapI (by omega) (by omega)
    have w2 : (l.length : Int) - 4 < 0 := by omega
    rw [hb]
    simp only [fi77, Tryd.f77, an77, w1, w2, T3, T5, T24, T33, T66, T113, EL, e_finWf, e_finWt, e_finMN, e_finMX, retM, meltV, tupV, D.asBox, D.row1, D.freeR, D.freeO, List.replicate_succ, stepD, accs, accP, accW, simpleOp, isAl, isExt, flipD, D.fresh1, D.row, D.plain, D.plain.plainL, St.close, St.close1, St.borrow, retV, resV, resL, outCL, outC, outL, outD, wantedV, opV, An.mid, thawV, St.settle, D.plainU, prune, envOf, get, put, eval, evalT, nz, argsV, capsV, ofV, binV, binV.aggV, unV, intV, eqOp, isConst, natV, optV, loadV, loadC, storeV, setC, St.at_, partV, partTy, indexAddrV, fieldAddrV, sliceV, sliceV.rowSl, sliceV.strSl, bounds, cutP, builtinV, lenV, maxL, maxV, appendV, St.elems, roomy, rowOf, rowS, isStr, esz, tdOf, convV, buildV, fillV, partsV, okParts, fillL, D.whole, D.demoteC, D.demote, demoteL, D.global, D.flat, D.leaf, D.cells, TI.agg, TD.rowish, callOpV, moveL, CC, keepB, St.borrowL, St.borrow, D.isLsl, adoptR, adoptC, adoptCL, adoptL, adopt, List.toArray, Array.toList, Nat.reduceEqDiff, Nat.reduceAdd, Nat.reduceSub, Nat.reduceMul, Nat.reduceLeDiff, Nat.reduceLT, reduceIte, reduceCtorEq, forall_const, imp_self, Int.reduceNeg, Int.reduceLT, Int.reduceLE, Int.reduceGT, Int.reduceGE, Int.reduceAdd, Int.reduceSub, Int.reduceMul, Int.reduceToNat, Int.reduceEq, ne_eq, eq_self]
theorem c77 (hC : LibCrc C) (l : List UInt8) (hl : l.length ≤ 1000000) (B : Hp) : C 77 [.vec 1 (l.map byteD) .none] B = some (.bool (isL l), B) := hC.f77 _ _ _ (run77 hC l hl B)

end Go.Proofs.YtbbbhalmlboapaaDoor.V
