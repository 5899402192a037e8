/-
Layer 2, for other layers: sums of 32 bits.
-/
import Derived.Test.YtnhelkclkdfndaaDoorVA
import Derived.Test.YtnhelkclkdfndaaDoorIC
namespace Go.Proofs.YtnhelkclkdfndaaDoor.V
open Go Go.RowKit
set_option linter.unusedSimpArgs false
set_option linter.unusedVariables false

/-! warren/crc.half -/
def an165 : An := ⟨fun _ => .none, fun _ => 0, fun _ => false, fun _ => .none⟩
noncomputable def fi165 : FI := ⟨1, 12, Tryd.f165.body.getD .skip, Tryd.f165.results.toList, an165, false, false, false⟩
theorem ok165 : FnOk Tryd.prog 165 fi165 := ⟨⟨Tryd.f165, Tryd.func165, by kernel_rfl, rfl, rfl, rfl⟩, by decide, by kernel_rfl, fun h => by cases h⟩
/-! warren/crc.More -/
def an160 : An := ⟨fun | 3 => some [5, 10, 11, 12] | _ => .none, fun _ => 0, fun _ => false, fun _ => .none⟩
noncomputable def fi160 : FI := ⟨2, 25, Tryd.f160.body.getD .skip, Tryd.f160.results.toList, an160, false, false, false⟩
theorem ok160 : FnOk Tryd.prog 160 fi160 := ⟨⟨Tryd.f160, Tryd.func160, by kernel_rfl, rfl, rfl, rfl⟩, by decide, by kernel_rfl, fun h => by cases h⟩
noncomputable def lp160_0 : Code := subC [1, 1, 0, 1, 0, 0] (Tryd.f160.body.getD .skip)   -- head 3 keep [5, 10, 11, 12]
/-! warren/crc.Sum -/
def an136 : An := ⟨fun _ => .none, fun _ => 0, fun _ => false, fun _ => .none⟩
noncomputable def fi136 : FI := ⟨1, 5, Tryd.f136.body.getD .skip, Tryd.f136.results.toList, an136, false, false, false⟩
theorem ok136 : FnOk Tryd.prog 136 fi136 := ⟨⟨Tryd.f136, Tryd.func136, by kernel_rfl, rfl, rfl, rfl⟩, by decide, by kernel_rfl, fun h => by cases h⟩
/-! warren/crc.Is -/
def an138 : An := ⟨fun _ => .none, fun _ => 0, fun _ => false, fun _ => .none⟩
noncomputable def fi138 : FI := ⟨1, 29, Tryd.f138.body.getD .skip, Tryd.f138.results.toList, an138, false, false, false⟩
theorem ok138 : FnOk Tryd.prog 138 fi138 := ⟨⟨Tryd.f138, Tryd.func138, by kernel_rfl, rfl, rfl, rfl⟩, by decide, by kernel_rfl, fun h => by cases h⟩
/-! warren/warrenref02.More -/
def an137 : An := ⟨fun | 3 => some [1, 5, 6] | 7 => some [1, 5, 6, 7] | _ => .none, fun _ => 0, fun _ => false, fun _ => .none⟩
noncomputable def fi137 : FI := ⟨2, 38, Tryd.f137.body.getD .skip, Tryd.f137.results.toList, an137, false, false, false⟩
theorem ok137 : FnOk Tryd.prog 137 fi137 := ⟨⟨Tryd.f137, Tryd.func137, by kernel_rfl, rfl, rfl, rfl⟩, by decide, by kernel_rfl, fun h => by cases h⟩
noncomputable def lp137_0 : Code := subC [1, 1, 0, 1, 0, 0] (Tryd.f137.body.getD .skip)   -- head 3 keep [1, 5, 6]
noncomputable def lp137_1 : Code := subC [1, 1, 0, 1, 0, 0, 1, 0, 0, 1, 1, 0, 0] (Tryd.f137.body.getD .skip)   -- head 7 keep [1, 5, 6, 7]
/-! warren/warrenref02.Is -/
def an143 : An := ⟨fun _ => .none, fun _ => 0, fun _ => false, fun _ => .none⟩
noncomputable def fi143 : FI := ⟨1, 58, Tryd.f143.body.getD .skip, Tryd.f143.results.toList, an143, false, false, false⟩
theorem ok143 : FnOk Tryd.prog 143 fi143 := ⟨⟨Tryd.f143, Tryd.func143, by kernel_rfl, rfl, rfl, rfl⟩, by decide, by kernel_rfl, fun h => by cases h⟩
structure LibCrc (C : Callees) : Prop extends LibIntC C where
  f165 : Has T C 165 fi165
  f160 : Has T C 160 fi160
  f136 : Has T C 136 fi136
  f138 : Has T C 138 fi138
  f137 : Has T C 137 fi137
  f143 : Has T C 143 fi143

variable {C : Callees}

abbrev byV (l : List UInt8) (p : Perm) : D := .vec 1 (l.map byteD) p

/-! ### Four bits -/
set_option maxRecDepth 10000 in
theorem run165 (C : Callees) (v : Nat) (hv : v < 4294967296) (B : Hp) : runV T C fi165 [.int .u32 v] B = some (.int .u32 (halfN v : Nat), B) := by
  rw [e_run _ _ _ rfl]
  have h1 : shrV .u32 (v : Int) 4 = ((v / 16 : Nat) : Int) := shr_nat .u32 v 4 (by decide)
  have h2 : bitsV .and .u32 (v : Int) 15 = ((v % 16 : Nat) : Int) := by
    have := bits_nat (k := .u32) rfl .and v 15 (by show _ < 2 ^ 32; omega) (by decide)
    simp only [show (15 : Nat) = 2 ^ 4 - 1 from rfl, Nat.and_two_pow_sub_one_eq_mod] at this
    exact this
  have h3 : bitsV .xor .u32 ((v / 16 : Nat) : Int) ((tabN.getD (v % 16) 0 : Nat) : Int) = ((halfN v : Nat) : Int) := by
    have ht : ∀ r : Fin 16, tabN.getD r.val 0 < 2 ^ 32 := of_decide_eq_true (by kernel_rfl)
    have := bits_nat (k := .u32) rfl .xor (v / 16) (tabN.getD (v % 16) 0) (by show _ < 2 ^ 32; omega) (ht ⟨v % 16, by omega⟩)
    exact this
  have h4 : v % 16 < 16 := by omega
  generalize halfN v = w at h3 ⊢
  generalize v % 16 = r at h2 h3 h4
  have h5 : (0 : Int) ≤ r := by omega
  have hb : buildV T 274 [(0, .int .u32 0), (1, .int .u32 274646895), (2, .int .u32 549293790), (3, .int .u32 820201905), (4, .int .u32 1098587580), (5, .int .u32 1361435347), (6, .int .u32 1640403810), (7, .int .u32 1905808397), (8, .int .u32 2197175160), (9, .int .u32 2460548119), (10, .int .u32 2722870694), (11, .int .u32 2987750089), (12, .int .u32 3280807620), (13, .int .u32 3553878443), (14, .int .u32 3811616794), (15, .int .u32 4084100981)] = some (.agg (nums .u32 16 fun i => tabN.getD i 0)) := by
    unfold buildV
    rw [T274]
    simp only [T237]
    rfl
  have g1 := nums_get (k := .u32) (n := 16) (m := fun i => tabN.getD i 0) h4
  simp only [fi165, Tryd.f165, an165, h1, h2, h3, h4, h5, hb, g1, AL, T237, T274, EL, e_finWf, e_finWt, e_finMN, e_finMX, retM, meltV, tupV, D.asBox, D.row1, D.freeR, D.freeO, List.replicate_succ, stepD, accs, accP, accW, simpleOp, isAl, isExt, flipD, D.fresh1, D.row, D.plain, D.plain.plainL, St.close, St.close1, St.borrow, retV, resV, resL, outCL, outC, outL, outD, wantedV, opV, An.mid, thawV, St.settle, D.plainU, prune, envOf, get, put, eval, evalT, nz, argsV, capsV, ofV, binV, binV.aggV, unV, intV, eqOp, isConst, natV, optV, loadV, loadC, storeV, St.at_, partV, partTy, indexAddrV, fieldAddrV, sliceV, sliceV.rowSl, sliceV.strSl, bounds, cutP, builtinV, lenV, maxL, maxV, appendV, St.elems, roomy, rowOf, rowS, isStr, esz, tdOf, convV, fillV, partsV, okParts, fillL, D.whole, D.demoteC, D.demote, demoteL, D.global, D.flat, D.leaf, D.cells, TI.agg, TD.rowish, callOpV, moveL, CC, keepB, St.borrowL, St.borrow, D.isLsl, adoptR, adoptC, adoptCL, adoptL, adopt, List.toArray, Array.toList, Nat.reduceEqDiff, Nat.reduceAdd, Nat.reduceSub, Nat.reduceMul, Nat.reduceLeDiff, Nat.reduceLT, reduceIte, reduceCtorEq, forall_const, imp_self, Int.reduceNeg, Int.reduceLT, Int.reduceLE, Int.reduceGT, Int.reduceGE, Int.reduceAdd, Int.reduceSub, Int.reduceMul, Int.reduceToNat, Int.reduceEq, ne_eq, eq_self]
theorem c165 (hC : LibCrc C) (v : Nat) (hv : v < 4294967296) (B : Hp) : C 165 [.int .u32 v] B = some (.int .u32 (halfN v : Nat), B) := hC.f165 _ _ _ (run165 C v hv B)

theorem not_u32 {v : Nat} (h : v < 4294967296) : bitsV .xor .u32 (if IntKind.u32.signed = true then -1 else IntKind.u32.max) (v : Int) = ((4294967295 - v : Nat) : Int) := by
  have := bits_nat (k := .u32) rfl .xor 4294967295 v (by decide) (by show _ < 2 ^ 32; omega)
  simp only [ones_xor h] at this
  exact this
theorem xor_u32 {a b : Nat} (ha : a < 4294967296) (hb : b < 4294967296) : bitsV .xor .u32 (a : Int) (b : Int) = ((a ^^^ b : Nat) : Int) :=
  bits_nat (k := .u32) rfl .xor a b ha hb

theorem crc_take {v : Nat} {l : List UInt8} {k : Nat} {c : UInt8} (h : l[k]? = some c) : crcN v (l.take (k + 1)) = byteN (crcN v (l.take k)) c.toNat := by
  rw [List.take_add_one, h, crc_append]; rfl

/-! ### Sums -/
def st160 (B : Hp) (v : Nat) (l : List UInt8) (k : Nat) : St := ⟨[(5, .int .u32 (crcN v (l.take k) : Nat)), (10, byV l .none), (11, .int .i64 l.length), (12, .int .i64 k)], [], [], B⟩
set_option maxRecDepth 10000 in
theorem loop160 (hC : LibCrc C) (B : Hp) {v : Nat} (hv : v < 4294967296) (l : List UInt8) (hl : l.length ≤ 1000000) (st : St) (hst : an160.at_ (some 3) st = st160 B v l 0) :
    ∃ x st', loopC T an160 C lp160_0 st = some (x, st') ∧ x = .exit 0 ∧ ∃ ρ, st' = ⟨ρ, [], [], B⟩ ∧ get ρ 5 = .int .u32 (crcN v l : Nat) := by
  refine loop_rule (st160 B v l) (fun k => k ≤ l.length) (fun k => l.length - k) _ ?_ 0 st hst (Nat.zero_le _)
  intro k hk
  rcases Nat.lt_or_ge k l.length with h | h
  · left
    refine ⟨k + 1, ?_, by omega, by omega⟩
    have hc := List.getElem?_eq_getElem h
    generalize l[k] = c at hc
    have hcl := c.toNat_lt
    have ht := crc_take (v := v) hc
    have hlt := crc_lt (l.take k) hv
    have g0 : (k : Int) < l.length := by omega
    have g1 : (0 : Int) ≤ k := by omega
    have g2 : (l.map byteD)[k]? = some (.int .u8 c.toNat) := by rw [List.getElem?_map, hc]; rfl
    have w1 : IntKind.i64.wrap ((k : Int) + 1) = ((k + 1 : Nat) : Int) := by rw [wrapI (by omega) (by omega)]; rfl
    have w2 : IntKind.u32.wrap (c.toNat : Int) = c.toNat := wrap_u32 (by omega) (by omega)
    have b1 := xor_u32 (a := crcN v (l.take k)) (b := c.toNat) hlt (by omega)
    have hx := Nat.xor_lt_two_pow (n := 32) hlt (by omega : c.toNat < 2 ^ 32)
    have c1 := c165 hC (crcN v (l.take k) ^^^ c.toNat) hx
    have c2 := c165 hC (halfN (crcN v (l.take k) ^^^ c.toNat)) (half_lt hx)
    simp only [st160, lp160_0, subC, atC, Tryd.f160, an160, g0, g1, g2, w1, w2, b1, c1, c2, AL, T3, T5, T68, T237, EL, e_finWf, e_finWt, e_finMN, e_finMX, retM, meltV, tupV, D.asBox, D.row1, D.freeR, D.freeO, List.replicate_succ, stepD, accs, accP, accW, simpleOp, isAl, isExt, flipD, D.fresh1, D.row, D.plain, D.plain.plainL, St.close, St.close1, St.borrow, retV, resV, resL, outCL, outC, outL, outD, wantedV, opV, An.mid, thawV, St.settle, D.plainU, prune, envOf, get, put, eval, evalT, nz, argsV, capsV, ofV, binV, binV.aggV, unV, intV, eqOp, isConst, natV, optV, loadV, loadC, storeV, setC, St.at_, partV, partTy, indexAddrV, fieldAddrV, sliceV, sliceV.rowSl, sliceV.strSl, bounds, cutP, builtinV, lenV, maxL, maxV, appendV, St.elems, roomy, rowOf, rowS, isStr, esz, tdOf, convV, buildV, fillV, partsV, okParts, fillL, D.whole, D.demoteC, D.demote, demoteL, D.global, D.flat, D.leaf, D.cells, TI.agg, TD.rowish, callOpV, moveL, CC, keepB, St.borrowL, St.borrow, D.isLsl, adoptR, adoptC, adoptCL, adoptL, adopt, List.toArray, Array.toList, Nat.reduceEqDiff, Nat.reduceAdd, Nat.reduceSub, Nat.reduceMul, Nat.reduceLeDiff, Nat.reduceLT, reduceIte, reduceCtorEq, forall_const, imp_self, Int.reduceNeg, Int.reduceLT, Int.reduceLE, Int.reduceGT, Int.reduceGE, Int.reduceAdd, Int.reduceSub, Int.reduceMul, Int.reduceToNat, Int.reduceEq, ne_eq, eq_self]
    refine ⟨_, rfl, ?_⟩
    show an160.at_ (some 3) _ = _
    simp only [an160, ren_map, toks_map, boxes_map, st160, ht, byteN, An.at_, tidyV, tidyW, tidyB, tidyT, sift, envBoxes, envToks, conToks, D.toks, D.tok1, toksL, D.boxes, D.box1, boxesL, memN, posN, renE, D.ren, D.ren1, renL, renB, St.content, St.boxOk, St.tokOk, trues, T3, T5, T68, T237, EL, e_finWf, e_finWt, e_finMN, e_finMX, retM, meltV, tupV, D.asBox, D.row1, D.freeR, D.freeO, List.replicate_succ, stepD, accs, accP, accW, simpleOp, isAl, isExt, flipD, D.fresh1, D.row, D.plain, D.plain.plainL, St.close, St.close1, St.borrow, retV, resV, resL, outCL, outC, outL, outD, wantedV, opV, An.mid, thawV, St.settle, D.plainU, prune, envOf, get, put, eval, evalT, nz, argsV, capsV, ofV, binV, binV.aggV, unV, intV, eqOp, isConst, natV, optV, loadV, loadC, storeV, setC, St.at_, partV, partTy, indexAddrV, fieldAddrV, sliceV, sliceV.rowSl, sliceV.strSl, bounds, cutP, builtinV, lenV, maxL, maxV, appendV, St.elems, roomy, rowOf, rowS, isStr, esz, tdOf, convV, buildV, fillV, partsV, okParts, fillL, D.whole, D.demoteC, D.demote, demoteL, D.global, D.flat, D.leaf, D.cells, TI.agg, TD.rowish, callOpV, moveL, CC, keepB, St.borrowL, St.borrow, D.isLsl, adoptR, adoptC, adoptCL, adoptL, adopt, List.toArray, Array.toList, Nat.reduceEqDiff, Nat.reduceAdd, Nat.reduceSub, Nat.reduceMul, Nat.reduceLeDiff, Nat.reduceLT, reduceIte, reduceCtorEq, forall_const, imp_self, Int.reduceNeg, Int.reduceLT, Int.reduceLE, Int.reduceGT, Int.reduceGE, Int.reduceAdd, Int.reduceSub, Int.reduceMul, Int.reduceToNat, Int.reduceEq, ne_eq, eq_self]
  · right
    obtain rfl : k = l.length := by omega
    have g0 : ¬ ((l.length : Nat) : Int) < l.length := by omega
    have e : l.take l.length = l := List.take_length
    simp only [st160, lp160_0, subC, atC, Tryd.f160, an160, g0, e, T3, T5, T68, T237, EL, e_finWf, e_finWt, e_finMN, e_finMX, retM, meltV, tupV, D.asBox, D.row1, D.freeR, D.freeO, List.replicate_succ, stepD, accs, accP, accW, simpleOp, isAl, isExt, flipD, D.fresh1, D.row, D.plain, D.plain.plainL, St.close, St.close1, St.borrow, retV, resV, resL, outCL, outC, outL, outD, wantedV, opV, An.mid, thawV, St.settle, D.plainU, prune, envOf, get, put, eval, evalT, nz, argsV, capsV, ofV, binV, binV.aggV, unV, intV, eqOp, isConst, natV, optV, loadV, loadC, storeV, setC, St.at_, partV, partTy, indexAddrV, fieldAddrV, sliceV, sliceV.rowSl, sliceV.strSl, bounds, cutP, builtinV, lenV, maxL, maxV, appendV, St.elems, roomy, rowOf, rowS, isStr, esz, tdOf, convV, buildV, fillV, partsV, okParts, fillL, D.whole, D.demoteC, D.demote, demoteL, D.global, D.flat, D.leaf, D.cells, TI.agg, TD.rowish, callOpV, moveL, CC, keepB, St.borrowL, St.borrow, D.isLsl, adoptR, adoptC, adoptCL, adoptL, adopt, List.toArray, Array.toList, Nat.reduceEqDiff, Nat.reduceAdd, Nat.reduceSub, Nat.reduceMul, Nat.reduceLeDiff, Nat.reduceLT, reduceIte, reduceCtorEq, forall_const, imp_self, Int.reduceNeg, Int.reduceLT, Int.reduceLE, Int.reduceGT, Int.reduceGE, Int.reduceAdd, Int.reduceSub, Int.reduceMul, Int.reduceToNat, Int.reduceEq, ne_eq, eq_self]
    exact ⟨_, _, rfl, by simp, rfl, _, rfl, rfl⟩

set_option maxRecDepth 10000 in
theorem run160 (hC : LibCrc C) (s : Nat) (hs : s < 4294967296) (l : List UInt8) (hl : l.length ≤ 1000000) (B : Hp) : runV T C fi160 [.int .u32 s, byV l .none] B = some (.int .u32 (moreS s l : Nat), B) := by
  rw [e_run _ _ _ rfl]
  have h1 := not_u32 hs
  have hlt := crc_lt l (v := 4294967295 - s) (by omega)
  have h2 := not_u32 hlt
  simp only [fi160, Tryd.f160, an160, h1, AL, T3, T5, T68, T237, EL, e_finWf, e_finWt, e_finMN, e_finMX, retM, meltV, tupV, D.asBox, D.row1, D.freeR, D.freeO, List.replicate_succ, stepD, accs, accP, accW, simpleOp, isAl, isExt, flipD, D.fresh1, D.row, D.plain, D.plain.plainL, St.close, St.close1, St.borrow, retV, resV, resL, outCL, outC, outL, outD, wantedV, opV, An.mid, thawV, St.settle, D.plainU, prune, envOf, get, put, eval, evalT, nz, argsV, capsV, ofV, binV, binV.aggV, unV, intV, eqOp, isConst, natV, optV, loadV, loadC, storeV, setC, St.at_, partV, partTy, indexAddrV, fieldAddrV, sliceV, sliceV.rowSl, sliceV.strSl, bounds, cutP, builtinV, lenV, maxL, maxV, appendV, St.elems, roomy, rowOf, rowS, isStr, esz, tdOf, convV, buildV, fillV, partsV, okParts, fillL, D.whole, D.demoteC, D.demote, demoteL, D.global, D.flat, D.leaf, D.cells, TI.agg, TD.rowish, callOpV, moveL, CC, keepB, St.borrowL, St.borrow, D.isLsl, adoptR, adoptC, adoptCL, adoptL, adopt, List.toArray, Array.toList, Nat.reduceEqDiff, Nat.reduceAdd, Nat.reduceSub, Nat.reduceMul, Nat.reduceLeDiff, Nat.reduceLT, reduceIte, reduceCtorEq, forall_const, imp_self, Int.reduceNeg, Int.reduceLT, Int.reduceLE, Int.reduceGT, Int.reduceGE, Int.reduceAdd, Int.reduceSub, Int.reduceMul, Int.reduceToNat, Int.reduceEq, ne_eq, eq_self]
  refine' in_loop (c' := lp160_0) (fin T _ _ _) ?h rfl ?q
  case h =>
    refine loop160 hC B (v := 4294967295 - s) (by omega) l hl _ ?_
    simp only [an160, ren_map, toks_map, boxes_map, st160, An.at_, tidyV, tidyW, tidyB, tidyT, sift, envBoxes, envToks, conToks, D.toks, D.tok1, toksL, D.boxes, D.box1, boxesL, memN, posN, renE, D.ren, D.ren1, renL, renB, St.content, St.boxOk, St.tokOk, trues, T3, T5, T68, T237, EL, e_finWf, e_finWt, e_finMN, e_finMX, retM, meltV, tupV, D.asBox, D.row1, D.freeR, D.freeO, List.replicate_succ, stepD, accs, accP, accW, simpleOp, isAl, isExt, flipD, D.fresh1, D.row, D.plain, D.plain.plainL, St.close, St.close1, St.borrow, retV, resV, resL, outCL, outC, outL, outD, wantedV, opV, An.mid, thawV, St.settle, D.plainU, prune, envOf, get, put, eval, evalT, nz, argsV, capsV, ofV, binV, binV.aggV, unV, intV, eqOp, isConst, natV, optV, loadV, loadC, storeV, setC, St.at_, partV, partTy, indexAddrV, fieldAddrV, sliceV, sliceV.rowSl, sliceV.strSl, bounds, cutP, builtinV, lenV, maxL, maxV, appendV, St.elems, roomy, rowOf, rowS, isStr, esz, tdOf, convV, buildV, fillV, partsV, okParts, fillL, D.whole, D.demoteC, D.demote, demoteL, D.global, D.flat, D.leaf, D.cells, TI.agg, TD.rowish, callOpV, moveL, CC, keepB, St.borrowL, St.borrow, D.isLsl, adoptR, adoptC, adoptCL, adoptL, adopt, List.toArray, Array.toList, Nat.reduceEqDiff, Nat.reduceAdd, Nat.reduceSub, Nat.reduceMul, Nat.reduceLeDiff, Nat.reduceLT, reduceIte, reduceCtorEq, forall_const, imp_self, Int.reduceNeg, Int.reduceLT, Int.reduceLE, Int.reduceGT, Int.reduceGE, Int.reduceAdd, Int.reduceSub, Int.reduceMul, Int.reduceToNat, Int.reduceEq, ne_eq, eq_self]
    rfl
  rintro x st' ⟨rfl, ρ, rfl, hg⟩
  simp only [hg, h2, moreS, T3, T5, T68, T237, EL, e_finWf, e_finWt, e_finMN, e_finMX, retM, meltV, tupV, D.asBox, D.row1, D.freeR, D.freeO, List.replicate_succ, stepD, accs, accP, accW, simpleOp, isAl, isExt, flipD, D.fresh1, D.row, D.plain, D.plain.plainL, St.close, St.close1, St.borrow, retV, resV, resL, outCL, outC, outL, outD, wantedV, opV, An.mid, thawV, St.settle, D.plainU, prune, envOf, get, put, eval, evalT, nz, argsV, capsV, ofV, binV, binV.aggV, unV, intV, eqOp, isConst, natV, optV, loadV, loadC, storeV, setC, St.at_, partV, partTy, indexAddrV, fieldAddrV, sliceV, sliceV.rowSl, sliceV.strSl, bounds, cutP, builtinV, lenV, maxL, maxV, appendV, St.elems, roomy, rowOf, rowS, isStr, esz, tdOf, convV, buildV, fillV, partsV, okParts, fillL, D.whole, D.demoteC, D.demote, demoteL, D.global, D.flat, D.leaf, D.cells, TI.agg, TD.rowish, callOpV, moveL, CC, keepB, St.borrowL, St.borrow, D.isLsl, adoptR, adoptC, adoptCL, adoptL, adopt, List.toArray, Array.toList, Nat.reduceEqDiff, Nat.reduceAdd, Nat.reduceSub, Nat.reduceMul, Nat.reduceLeDiff, Nat.reduceLT, reduceIte, reduceCtorEq, forall_const, imp_self, Int.reduceNeg, Int.reduceLT, Int.reduceLE, Int.reduceGT, Int.reduceGE, Int.reduceAdd, Int.reduceSub, Int.reduceMul, Int.reduceToNat, Int.reduceEq, ne_eq, eq_self]
theorem c160 (hC : LibCrc C) (s : Nat) (hs : s < 4294967296) (l : List UInt8) (hl : l.length ≤ 1000000) (B : Hp) : C 160 [.int .u32 s, .vec 1 (l.map byteD) .none] B = some (.int .u32 (moreS s l : Nat), B) := hC.f160 _ _ _ (run160 hC s hs l hl B)

set_option maxRecDepth 10000 in
theorem run136 (hC : LibCrc C) (l : List UInt8) (hl : l.length ≤ 1000000) (B : Hp) : runV T C fi136 [byV l .none] B = some (.int .u32 (moreS 0 l : Nat), B) := by
  rw [e_run _ _ _ rfl]
  have c1 : ∀ B, C 160 [.int .u32 0, .vec 1 (l.map byteD) .none] B = some (.int .u32 (moreS 0 l : Nat), B) := c160 hC 0 (by decide) l hl
  simp only [fi136, Tryd.f136, an136, c1, EL, e_finWf, e_finWt, e_finMN, e_finMX, retM, meltV, tupV, D.asBox, D.row1, D.freeR, D.freeO, List.replicate_succ, stepD, accs, accP, accW, simpleOp, isAl, isExt, flipD, D.fresh1, D.row, D.plain, D.plain.plainL, St.close, St.close1, St.borrow, retV, resV, resL, outCL, outC, outL, outD, wantedV, opV, An.mid, thawV, St.settle, D.plainU, prune, envOf, get, put, eval, evalT, nz, argsV, capsV, ofV, binV, binV.aggV, unV, intV, eqOp, isConst, natV, optV, loadV, loadC, storeV, setC, St.at_, partV, partTy, indexAddrV, fieldAddrV, sliceV, sliceV.rowSl, sliceV.strSl, bounds, cutP, builtinV, lenV, maxL, maxV, appendV, St.elems, roomy, rowOf, rowS, isStr, esz, tdOf, convV, buildV, fillV, partsV, okParts, fillL, D.whole, D.demoteC, D.demote, demoteL, D.global, D.flat, D.leaf, D.cells, TI.agg, TD.rowish, callOpV, moveL, CC, keepB, St.borrowL, St.borrow, D.isLsl, adoptR, adoptC, adoptCL, adoptL, adopt, List.toArray, Array.toList, Nat.reduceEqDiff, Nat.reduceAdd, Nat.reduceSub, Nat.reduceMul, Nat.reduceLeDiff, Nat.reduceLT, reduceIte, reduceCtorEq, forall_const, imp_self, Int.reduceNeg, Int.reduceLT, Int.reduceLE, Int.reduceGT, Int.reduceGE, Int.reduceAdd, Int.reduceSub, Int.reduceMul, Int.reduceToNat, Int.reduceEq, ne_eq, eq_self]
theorem c136 (hC : LibCrc C) (l : List UInt8) (hl : l.length ≤ 1000000) (B : Hp) : C 136 [.vec 1 (l.map byteD) .none] B = some (.int .u32 (moreS 0 l : Nat), B) := hC.f136 _ _ _ (run136 hC l hl B)

/-! ### The document's sums -/
def iterB : Nat → Nat → Nat
  | 0, v => v
  | n + 1, v => iterB n (bitN v)
theorem iterB_succ : ∀ (n v : Nat), iterB (n + 1) v = bitN (iterB n v)
  | 0, v => rfl
  | n + 1, v => by rw [iterB, iterB_succ n]; rfl
theorem iterB_8 (v c : Nat) : iterB 8 (v ^^^ c) = byteN v c := by
  unfold byteN
  rw [half_bit, half_bit]; rfl
theorem iterB_lt : ∀ (n : Nat) {v : Nat}, v < 4294967296 → iterB n v < 4294967296
  | 0, v, h => h
  | n + 1, v, h => iterB_lt n (bit_lt h)

def st137 (B : Hp) (v : Nat) (l : List UInt8) (k : Nat) : St := ⟨[(1, byV l .none), (5, .int .u32 (crcN v (l.take k) : Nat)), (6, .int .i64 k)], [], [], B⟩
def st137_1 (B : Hp) (u : Nat) (l : List UInt8) (k : Nat) (j : Nat) : St := ⟨[(1, byV l .none), (5, .int .u32 (iterB j u : Nat)), (6, .int .i64 k), (7, .int .i64 j)], [], [], B⟩

set_option maxRecDepth 10000 in
theorem loop137_1 (C : Callees) (B : Hp) {u : Nat} (hu : u < 4294967296) (l : List UInt8) (k : Nat) (st : St) (hst : an137.at_ (some 7) st = st137_1 B u l k 0) :
    ∃ x st', loopC T an137 C lp137_1 st = some (x, st') ∧ x = .exit 2 ∧ ∃ ρ, st' = ⟨ρ, [], [], B⟩ ∧ get ρ 1 = byV l .none ∧ get ρ 5 = .int .u32 (iterB 8 u : Nat) ∧ get ρ 6 = .int .i64 k := by
  refine loop_rule (st137_1 B u l k) (fun j => j ≤ 8) (fun j => 8 - j) _ ?_ 0 st hst (by omega)
  intro j hj
  rcases Nat.lt_or_ge j 8 with h | h
  · left
    refine ⟨j + 1, ?_, by omega, by omega⟩
    have g0 : (j : Int) < 8 := by omega
    have w1 : IntKind.i64.wrap ((j : Int) + 1) = ((j + 1 : Nat) : Int) := by rw [wrapI (by omega) (by omega)]; rfl
    have hv := iterB_lt j hu
    have hsucc := iterB_succ j u
    obtain ⟨v, hvj⟩ : ∃ v, iterB j u = v := ⟨_, rfl⟩
    rw [hvj] at hv hsucc
    have t1 := tmod2 v
    have d1 := tdiv2 v
    have w2 : IntKind.u32.wrap ((v / 2 : Nat) : Int) = ((v / 2 : Nat) : Int) := wrap_u32 (by omega) (by omega)
    have b1 : bitsV .xor .u32 ((v / 2 : Nat) : Int) 2197175160 = ((v / 2 ^^^ 2197175160 : Nat) : Int) := xor_u32 (by omega) (by decide)
    rcases Nat.mod_two_eq_zero_or_one v with hm | hm
    · have hb : bitN v = v / 2 := by unfold bitN; rw [if_neg (by omega), Nat.xor_zero]
      rw [hb] at hsucc
      have m1 : ¬ ((v % 2 : Nat) : Int) = 1 := by omega
      simp only [st137_1, lp137_1, subC, atC, Tryd.f137, an137, hvj, g0, w1, t1, d1, w2, m1, T3, T5, T68, T237, EL, e_finWf, e_finWt, e_finMN, e_finMX, retM, meltV, tupV, D.asBox, D.row1, D.freeR, D.freeO, List.replicate_succ, stepD, accs, accP, accW, simpleOp, isAl, isExt, flipD, D.fresh1, D.row, D.plain, D.plain.plainL, St.close, St.close1, St.borrow, retV, resV, resL, outCL, outC, outL, outD, wantedV, opV, An.mid, thawV, St.settle, D.plainU, prune, envOf, get, put, eval, evalT, nz, argsV, capsV, ofV, binV, binV.aggV, unV, intV, eqOp, isConst, natV, optV, loadV, loadC, storeV, setC, St.at_, partV, partTy, indexAddrV, fieldAddrV, sliceV, sliceV.rowSl, sliceV.strSl, bounds, cutP, builtinV, lenV, maxL, maxV, appendV, St.elems, roomy, rowOf, rowS, isStr, esz, tdOf, convV, buildV, fillV, partsV, okParts, fillL, D.whole, D.demoteC, D.demote, demoteL, D.global, D.flat, D.leaf, D.cells, TI.agg, TD.rowish, callOpV, moveL, CC, keepB, St.borrowL, St.borrow, D.isLsl, adoptR, adoptC, adoptCL, adoptL, adopt, List.toArray, Array.toList, Nat.reduceEqDiff, Nat.reduceAdd, Nat.reduceSub, Nat.reduceMul, Nat.reduceLeDiff, Nat.reduceLT, reduceIte, reduceCtorEq, forall_const, imp_self, Int.reduceNeg, Int.reduceLT, Int.reduceLE, Int.reduceGT, Int.reduceGE, Int.reduceAdd, Int.reduceSub, Int.reduceMul, Int.reduceToNat, Int.reduceEq, ne_eq, eq_self]
      refine ⟨_, rfl, ?_⟩
      show an137.at_ (some 7) _ = _
      simp only [an137, ren_map, toks_map, boxes_map, hsucc, An.at_, tidyV, tidyW, tidyB, tidyT, sift, envBoxes, envToks, conToks, D.toks, D.tok1, toksL, D.boxes, D.box1, boxesL, memN, posN, renE, D.ren, D.ren1, renL, renB, St.content, St.boxOk, St.tokOk, trues, T3, T5, T68, T237, EL, e_finWf, e_finWt, e_finMN, e_finMX, retM, meltV, tupV, D.asBox, D.row1, D.freeR, D.freeO, List.replicate_succ, stepD, accs, accP, accW, simpleOp, isAl, isExt, flipD, D.fresh1, D.row, D.plain, D.plain.plainL, St.close, St.close1, St.borrow, retV, resV, resL, outCL, outC, outL, outD, wantedV, opV, An.mid, thawV, St.settle, D.plainU, prune, envOf, get, put, eval, evalT, nz, argsV, capsV, ofV, binV, binV.aggV, unV, intV, eqOp, isConst, natV, optV, loadV, loadC, storeV, setC, St.at_, partV, partTy, indexAddrV, fieldAddrV, sliceV, sliceV.rowSl, sliceV.strSl, bounds, cutP, builtinV, lenV, maxL, maxV, appendV, St.elems, roomy, rowOf, rowS, isStr, esz, tdOf, convV, buildV, fillV, partsV, okParts, fillL, D.whole, D.demoteC, D.demote, demoteL, D.global, D.flat, D.leaf, D.cells, TI.agg, TD.rowish, callOpV, moveL, CC, keepB, St.borrowL, St.borrow, D.isLsl, adoptR, adoptC, adoptCL, adoptL, adopt, List.toArray, Array.toList, Nat.reduceEqDiff, Nat.reduceAdd, Nat.reduceSub, Nat.reduceMul, Nat.reduceLeDiff, Nat.reduceLT, reduceIte, reduceCtorEq, forall_const, imp_self, Int.reduceNeg, Int.reduceLT, Int.reduceLE, Int.reduceGT, Int.reduceGE, Int.reduceAdd, Int.reduceSub, Int.reduceMul, Int.reduceToNat, Int.reduceEq, ne_eq, eq_self]
    · have hb : bitN v = v / 2 ^^^ 2197175160 := by unfold bitN; rw [if_pos hm]; rfl
      rw [hb] at hsucc
      have m1 : ((v % 2 : Nat) : Int) = 1 := by omega
      simp only [st137_1, lp137_1, subC, atC, Tryd.f137, an137, hvj, g0, w1, t1, d1, w2, m1, b1, T3, T5, T68, T237, EL, e_finWf, e_finWt, e_finMN, e_finMX, retM, meltV, tupV, D.asBox, D.row1, D.freeR, D.freeO, List.replicate_succ, stepD, accs, accP, accW, simpleOp, isAl, isExt, flipD, D.fresh1, D.row, D.plain, D.plain.plainL, St.close, St.close1, St.borrow, retV, resV, resL, outCL, outC, outL, outD, wantedV, opV, An.mid, thawV, St.settle, D.plainU, prune, envOf, get, put, eval, evalT, nz, argsV, capsV, ofV, binV, binV.aggV, unV, intV, eqOp, isConst, natV, optV, loadV, loadC, storeV, setC, St.at_, partV, partTy, indexAddrV, fieldAddrV, sliceV, sliceV.rowSl, sliceV.strSl, bounds, cutP, builtinV, lenV, maxL, maxV, appendV, St.elems, roomy, rowOf, rowS, isStr, esz, tdOf, convV, buildV, fillV, partsV, okParts, fillL, D.whole, D.demoteC, D.demote, demoteL, D.global, D.flat, D.leaf, D.cells, TI.agg, TD.rowish, callOpV, moveL, CC, keepB, St.borrowL, St.borrow, D.isLsl, adoptR, adoptC, adoptCL, adoptL, adopt, List.toArray, Array.toList, Nat.reduceEqDiff, Nat.reduceAdd, Nat.reduceSub, Nat.reduceMul, Nat.reduceLeDiff, Nat.reduceLT, reduceIte, reduceCtorEq, forall_const, imp_self, Int.reduceNeg, Int.reduceLT, Int.reduceLE, Int.reduceGT, Int.reduceGE, Int.reduceAdd, Int.reduceSub, Int.reduceMul, Int.reduceToNat, Int.reduceEq, ne_eq, eq_self]
      refine ⟨_, rfl, ?_⟩
      show an137.at_ (some 7) _ = _
      simp only [an137, ren_map, toks_map, boxes_map, hsucc, An.at_, tidyV, tidyW, tidyB, tidyT, sift, envBoxes, envToks, conToks, D.toks, D.tok1, toksL, D.boxes, D.box1, boxesL, memN, posN, renE, D.ren, D.ren1, renL, renB, St.content, St.boxOk, St.tokOk, trues, T3, T5, T68, T237, EL, e_finWf, e_finWt, e_finMN, e_finMX, retM, meltV, tupV, D.asBox, D.row1, D.freeR, D.freeO, List.replicate_succ, stepD, accs, accP, accW, simpleOp, isAl, isExt, flipD, D.fresh1, D.row, D.plain, D.plain.plainL, St.close, St.close1, St.borrow, retV, resV, resL, outCL, outC, outL, outD, wantedV, opV, An.mid, thawV, St.settle, D.plainU, prune, envOf, get, put, eval, evalT, nz, argsV, capsV, ofV, binV, binV.aggV, unV, intV, eqOp, isConst, natV, optV, loadV, loadC, storeV, setC, St.at_, partV, partTy, indexAddrV, fieldAddrV, sliceV, sliceV.rowSl, sliceV.strSl, bounds, cutP, builtinV, lenV, maxL, maxV, appendV, St.elems, roomy, rowOf, rowS, isStr, esz, tdOf, convV, buildV, fillV, partsV, okParts, fillL, D.whole, D.demoteC, D.demote, demoteL, D.global, D.flat, D.leaf, D.cells, TI.agg, TD.rowish, callOpV, moveL, CC, keepB, St.borrowL, St.borrow, D.isLsl, adoptR, adoptC, adoptCL, adoptL, adopt, List.toArray, Array.toList, Nat.reduceEqDiff, Nat.reduceAdd, Nat.reduceSub, Nat.reduceMul, Nat.reduceLeDiff, Nat.reduceLT, reduceIte, reduceCtorEq, forall_const, imp_self, Int.reduceNeg, Int.reduceLT, Int.reduceLE, Int.reduceGT, Int.reduceGE, Int.reduceAdd, Int.reduceSub, Int.reduceMul, Int.reduceToNat, Int.reduceEq, ne_eq, eq_self]
  · right
    obtain rfl : j = 8 := by omega
    have g0 : ¬ ((8 : Nat) : Int) < 8 := by omega
    simp only [st137_1, lp137_1, subC, atC, Tryd.f137, an137, g0, T3, T5, T68, T237, EL, e_finWf, e_finWt, e_finMN, e_finMX, retM, meltV, tupV, D.asBox, D.row1, D.freeR, D.freeO, List.replicate_succ, stepD, accs, accP, accW, simpleOp, isAl, isExt, flipD, D.fresh1, D.row, D.plain, D.plain.plainL, St.close, St.close1, St.borrow, retV, resV, resL, outCL, outC, outL, outD, wantedV, opV, An.mid, thawV, St.settle, D.plainU, prune, envOf, get, put, eval, evalT, nz, argsV, capsV, ofV, binV, binV.aggV, unV, intV, eqOp, isConst, natV, optV, loadV, loadC, storeV, setC, St.at_, partV, partTy, indexAddrV, fieldAddrV, sliceV, sliceV.rowSl, sliceV.strSl, bounds, cutP, builtinV, lenV, maxL, maxV, appendV, St.elems, roomy, rowOf, rowS, isStr, esz, tdOf, convV, buildV, fillV, partsV, okParts, fillL, D.whole, D.demoteC, D.demote, demoteL, D.global, D.flat, D.leaf, D.cells, TI.agg, TD.rowish, callOpV, moveL, CC, keepB, St.borrowL, St.borrow, D.isLsl, adoptR, adoptC, adoptCL, adoptL, adopt, List.toArray, Array.toList, Nat.reduceEqDiff, Nat.reduceAdd, Nat.reduceSub, Nat.reduceMul, Nat.reduceLeDiff, Nat.reduceLT, reduceIte, reduceCtorEq, forall_const, imp_self, Int.reduceNeg, Int.reduceLT, Int.reduceLE, Int.reduceGT, Int.reduceGE, Int.reduceAdd, Int.reduceSub, Int.reduceMul, Int.reduceToNat, Int.reduceEq, ne_eq, eq_self]
    exact ⟨_, _, rfl, by simp, rfl, _, rfl, rfl, rfl, rfl⟩

set_option maxRecDepth 10000 in
theorem loop137 (C : Callees) (B : Hp) {v : Nat} (hv : v < 4294967296) (l : List UInt8) (hl : l.length ≤ 1000000) (st : St) (hst : an137.at_ (some 3) st = st137 B v l 0) :
    ∃ x st', loopC T an137 C lp137_0 st = some (x, st') ∧ x = .exit 0 ∧ ∃ ρ, st' = ⟨ρ, [], [], B⟩ ∧ get ρ 5 = .int .u32 (crcN v l : Nat) := by
  refine loop_rule (st137 B v l) (fun k => k ≤ l.length) (fun k => l.length - k) _ ?_ 0 st hst (Nat.zero_le _)
  intro k hk
  rcases Nat.lt_or_ge k l.length with h | h
  · left
    refine ⟨k + 1, ?_, by omega, by omega⟩
    have hc := List.getElem?_eq_getElem h
    generalize l[k] = c at hc
    have hcl := c.toNat_lt
    have ht := crc_take (v := v) hc
    have hlt := crc_lt (l.take k) hv
    have g0 : (k : Int) < l.length := by omega
    have g1 : (0 : Int) ≤ k := by omega
    have g2 : (l.map byteD)[k]? = some (.int .u8 c.toNat) := by rw [List.getElem?_map, hc]; rfl
    have w1 : IntKind.i64.wrap ((k : Int) + 1) = ((k + 1 : Nat) : Int) := by rw [wrapI (by omega) (by omega)]; rfl
    have w2 : IntKind.u32.wrap (c.toNat : Int) = c.toNat := wrap_u32 (by omega) (by omega)
    have b1 := xor_u32 (a := crcN v (l.take k)) (b := c.toNat) hlt (by omega)
    have hx := Nat.xor_lt_two_pow (n := 32) hlt (by omega : c.toNat < 2 ^ 32)
    simp only [st137, lp137_0, subC, atC, Tryd.f137, an137, g0, g1, g2, w2, b1, AL, T3, T5, T68, T237, EL, e_finWf, e_finWt, e_finMN, e_finMX, retM, meltV, tupV, D.asBox, D.row1, D.freeR, D.freeO, List.replicate_succ, stepD, accs, accP, accW, simpleOp, isAl, isExt, flipD, D.fresh1, D.row, D.plain, D.plain.plainL, St.close, St.close1, St.borrow, retV, resV, resL, outCL, outC, outL, outD, wantedV, opV, An.mid, thawV, St.settle, D.plainU, prune, envOf, get, put, eval, evalT, nz, argsV, capsV, ofV, binV, binV.aggV, unV, intV, eqOp, isConst, natV, optV, loadV, loadC, storeV, setC, St.at_, partV, partTy, indexAddrV, fieldAddrV, sliceV, sliceV.rowSl, sliceV.strSl, bounds, cutP, builtinV, lenV, maxL, maxV, appendV, St.elems, roomy, rowOf, rowS, isStr, esz, tdOf, convV, buildV, fillV, partsV, okParts, fillL, D.whole, D.demoteC, D.demote, demoteL, D.global, D.flat, D.leaf, D.cells, TI.agg, TD.rowish, callOpV, moveL, CC, keepB, St.borrowL, St.borrow, D.isLsl, adoptR, adoptC, adoptCL, adoptL, adopt, List.toArray, Array.toList, Nat.reduceEqDiff, Nat.reduceAdd, Nat.reduceSub, Nat.reduceMul, Nat.reduceLeDiff, Nat.reduceLT, reduceIte, reduceCtorEq, forall_const, imp_self, Int.reduceNeg, Int.reduceLT, Int.reduceLE, Int.reduceGT, Int.reduceGE, Int.reduceAdd, Int.reduceSub, Int.reduceMul, Int.reduceToNat, Int.reduceEq, ne_eq, eq_self]
    generalize hr : loopC T _ C _ _ = r
    obtain ⟨x, st', rfl, hx⟩ := nest hr (loop137_1 C B (u := crcN v (l.take k) ^^^ c.toNat) hx l k _ (by
      clear hr
      simp only [an137, ren_map, toks_map, boxes_map, st137_1, An.at_, tidyV, tidyW, tidyB, tidyT, sift, envBoxes, envToks, conToks, D.toks, D.tok1, toksL, D.boxes, D.box1, boxesL, memN, posN, renE, D.ren, D.ren1, renL, renB, St.content, St.boxOk, St.tokOk, trues, T3, T5, T68, T237, EL, e_finWf, e_finWt, e_finMN, e_finMX, retM, meltV, tupV, D.asBox, D.row1, D.freeR, D.freeO, List.replicate_succ, stepD, accs, accP, accW, simpleOp, isAl, isExt, flipD, D.fresh1, D.row, D.plain, D.plain.plainL, St.close, St.close1, St.borrow, retV, resV, resL, outCL, outC, outL, outD, wantedV, opV, An.mid, thawV, St.settle, D.plainU, prune, envOf, get, put, eval, evalT, nz, argsV, capsV, ofV, binV, binV.aggV, unV, intV, eqOp, isConst, natV, optV, loadV, loadC, storeV, setC, St.at_, partV, partTy, indexAddrV, fieldAddrV, sliceV, sliceV.rowSl, sliceV.strSl, bounds, cutP, builtinV, lenV, maxL, maxV, appendV, St.elems, roomy, rowOf, rowS, isStr, esz, tdOf, convV, buildV, fillV, partsV, okParts, fillL, D.whole, D.demoteC, D.demote, demoteL, D.global, D.flat, D.leaf, D.cells, TI.agg, TD.rowish, callOpV, moveL, CC, keepB, St.borrowL, St.borrow, D.isLsl, adoptR, adoptC, adoptCL, adoptL, adopt, List.toArray, Array.toList, Nat.reduceEqDiff, Nat.reduceAdd, Nat.reduceSub, Nat.reduceMul, Nat.reduceLeDiff, Nat.reduceLT, reduceIte, reduceCtorEq, forall_const, imp_self, Int.reduceNeg, Int.reduceLT, Int.reduceLE, Int.reduceGT, Int.reduceGE, Int.reduceAdd, Int.reduceSub, Int.reduceMul, Int.reduceToNat, Int.reduceEq, ne_eq, eq_self]
      rfl)) rfl
    clear hr
    obtain ⟨rfl, ρ, rfl, h1, h2, h3⟩ := hx
    rw [iterB_8, ← ht] at h2
    simp only [h1, h2, h3, w1, T3, T5, T68, T237, EL, e_finWf, e_finWt, e_finMN, e_finMX, retM, meltV, tupV, D.asBox, D.row1, D.freeR, D.freeO, List.replicate_succ, stepD, accs, accP, accW, simpleOp, isAl, isExt, flipD, D.fresh1, D.row, D.plain, D.plain.plainL, St.close, St.close1, St.borrow, retV, resV, resL, outCL, outC, outL, outD, wantedV, opV, An.mid, thawV, St.settle, D.plainU, prune, envOf, get, put, eval, evalT, nz, argsV, capsV, ofV, binV, binV.aggV, unV, intV, eqOp, isConst, natV, optV, loadV, loadC, storeV, setC, St.at_, partV, partTy, indexAddrV, fieldAddrV, sliceV, sliceV.rowSl, sliceV.strSl, bounds, cutP, builtinV, lenV, maxL, maxV, appendV, St.elems, roomy, rowOf, rowS, isStr, esz, tdOf, convV, buildV, fillV, partsV, okParts, fillL, D.whole, D.demoteC, D.demote, demoteL, D.global, D.flat, D.leaf, D.cells, TI.agg, TD.rowish, callOpV, moveL, CC, keepB, St.borrowL, St.borrow, D.isLsl, adoptR, adoptC, adoptCL, adoptL, adopt, List.toArray, Array.toList, Nat.reduceEqDiff, Nat.reduceAdd, Nat.reduceSub, Nat.reduceMul, Nat.reduceLeDiff, Nat.reduceLT, reduceIte, reduceCtorEq, forall_const, imp_self, Int.reduceNeg, Int.reduceLT, Int.reduceLE, Int.reduceGT, Int.reduceGE, Int.reduceAdd, Int.reduceSub, Int.reduceMul, Int.reduceToNat, Int.reduceEq, ne_eq, eq_self]
    refine ⟨_, rfl, ?_⟩
    show an137.at_ (some 3) _ = _
    simp only [an137, ren_map, toks_map, boxes_map, st137, h1, h2, h3, An.at_, tidyV, tidyW, tidyB, tidyT, sift, envBoxes, envToks, conToks, D.toks, D.tok1, toksL, D.boxes, D.box1, boxesL, memN, posN, renE, D.ren, D.ren1, renL, renB, St.content, St.boxOk, St.tokOk, trues, T3, T5, T68, T237, EL, e_finWf, e_finWt, e_finMN, e_finMX, retM, meltV, tupV, D.asBox, D.row1, D.freeR, D.freeO, List.replicate_succ, stepD, accs, accP, accW, simpleOp, isAl, isExt, flipD, D.fresh1, D.row, D.plain, D.plain.plainL, St.close, St.close1, St.borrow, retV, resV, resL, outCL, outC, outL, outD, wantedV, opV, An.mid, thawV, St.settle, D.plainU, prune, envOf, get, put, eval, evalT, nz, argsV, capsV, ofV, binV, binV.aggV, unV, intV, eqOp, isConst, natV, optV, loadV, loadC, storeV, setC, St.at_, partV, partTy, indexAddrV, fieldAddrV, sliceV, sliceV.rowSl, sliceV.strSl, bounds, cutP, builtinV, lenV, maxL, maxV, appendV, St.elems, roomy, rowOf, rowS, isStr, esz, tdOf, convV, buildV, fillV, partsV, okParts, fillL, D.whole, D.demoteC, D.demote, demoteL, D.global, D.flat, D.leaf, D.cells, TI.agg, TD.rowish, callOpV, moveL, CC, keepB, St.borrowL, St.borrow, D.isLsl, adoptR, adoptC, adoptCL, adoptL, adopt, List.toArray, Array.toList, Nat.reduceEqDiff, Nat.reduceAdd, Nat.reduceSub, Nat.reduceMul, Nat.reduceLeDiff, Nat.reduceLT, reduceIte, reduceCtorEq, forall_const, imp_self, Int.reduceNeg, Int.reduceLT, Int.reduceLE, Int.reduceGT, Int.reduceGE, Int.reduceAdd, Int.reduceSub, Int.reduceMul, Int.reduceToNat, Int.reduceEq, ne_eq, eq_self]
  · right
    obtain rfl : k = l.length := by omega
    have g0 : ¬ ((l.length : Nat) : Int) < l.length := by omega
    have e : l.take l.length = l := List.take_length
    simp only [st137, lp137_0, subC, atC, Tryd.f137, an137, g0, e, T3, T5, T68, T237, EL, e_finWf, e_finWt, e_finMN, e_finMX, retM, meltV, tupV, D.asBox, D.row1, D.freeR, D.freeO, List.replicate_succ, stepD, accs, accP, accW, simpleOp, isAl, isExt, flipD, D.fresh1, D.row, D.plain, D.plain.plainL, St.close, St.close1, St.borrow, retV, resV, resL, outCL, outC, outL, outD, wantedV, opV, An.mid, thawV, St.settle, D.plainU, prune, envOf, get, put, eval, evalT, nz, argsV, capsV, ofV, binV, binV.aggV, unV, intV, eqOp, isConst, natV, optV, loadV, loadC, storeV, setC, St.at_, partV, partTy, indexAddrV, fieldAddrV, sliceV, sliceV.rowSl, sliceV.strSl, bounds, cutP, builtinV, lenV, maxL, maxV, appendV, St.elems, roomy, rowOf, rowS, isStr, esz, tdOf, convV, buildV, fillV, partsV, okParts, fillL, D.whole, D.demoteC, D.demote, demoteL, D.global, D.flat, D.leaf, D.cells, TI.agg, TD.rowish, callOpV, moveL, CC, keepB, St.borrowL, St.borrow, D.isLsl, adoptR, adoptC, adoptCL, adoptL, adopt, List.toArray, Array.toList, Nat.reduceEqDiff, Nat.reduceAdd, Nat.reduceSub, Nat.reduceMul, Nat.reduceLeDiff, Nat.reduceLT, reduceIte, reduceCtorEq, forall_const, imp_self, Int.reduceNeg, Int.reduceLT, Int.reduceLE, Int.reduceGT, Int.reduceGE, Int.reduceAdd, Int.reduceSub, Int.reduceMul, Int.reduceToNat, Int.reduceEq, ne_eq, eq_self]
    exact ⟨_, _, rfl, by simp, rfl, _, rfl, rfl⟩

set_option maxRecDepth 10000 in
theorem run137 (C : Callees) (s : Nat) (hs : s < 4294967296) (l : List UInt8) (hl : l.length ≤ 1000000) (B : Hp) : runV T C fi137 [.int .u32 s, byV l .none] B = some (.int .u32 (moreS s l : Nat), B) := by
  rw [e_run _ _ _ rfl]
  have hlt := crc_lt l (v := 4294967295 - s) (by omega)
  have w1 : IntKind.u32.wrap (4294967295 - (s : Int)) = ((4294967295 - s : Nat) : Int) := by rw [wrap_u32 (by omega) (by omega)]; omega
  have w2 : IntKind.u32.wrap (4294967295 - ((crcN (4294967295 - s) l : Nat) : Int)) = ((4294967295 - crcN (4294967295 - s) l : Nat) : Int) := by rw [wrap_u32 (by omega) (by omega)]; omega
  simp only [fi137, Tryd.f137, an137, w1, AL, T3, T5, T68, T237, EL, e_finWf, e_finWt, e_finMN, e_finMX, retM, meltV, tupV, D.asBox, D.row1, D.freeR, D.freeO, List.replicate_succ, stepD, accs, accP, accW, simpleOp, isAl, isExt, flipD, D.fresh1, D.row, D.plain, D.plain.plainL, St.close, St.close1, St.borrow, retV, resV, resL, outCL, outC, outL, outD, wantedV, opV, An.mid, thawV, St.settle, D.plainU, prune, envOf, get, put, eval, evalT, nz, argsV, capsV, ofV, binV, binV.aggV, unV, intV, eqOp, isConst, natV, optV, loadV, loadC, storeV, setC, St.at_, partV, partTy, indexAddrV, fieldAddrV, sliceV, sliceV.rowSl, sliceV.strSl, bounds, cutP, builtinV, lenV, maxL, maxV, appendV, St.elems, roomy, rowOf, rowS, isStr, esz, tdOf, convV, buildV, fillV, partsV, okParts, fillL, D.whole, D.demoteC, D.demote, demoteL, D.global, D.flat, D.leaf, D.cells, TI.agg, TD.rowish, callOpV, moveL, CC, keepB, St.borrowL, St.borrow, D.isLsl, adoptR, adoptC, adoptCL, adoptL, adopt, List.toArray, Array.toList, Nat.reduceEqDiff, Nat.reduceAdd, Nat.reduceSub, Nat.reduceMul, Nat.reduceLeDiff, Nat.reduceLT, reduceIte, reduceCtorEq, forall_const, imp_self, Int.reduceNeg, Int.reduceLT, Int.reduceLE, Int.reduceGT, Int.reduceGE, Int.reduceAdd, Int.reduceSub, Int.reduceMul, Int.reduceToNat, Int.reduceEq, ne_eq, eq_self]
  refine' in_loop (c' := lp137_0) (fin T _ _ _) ?h rfl ?q
  case h =>
    refine loop137 C B (v := 4294967295 - s) (by omega) l hl _ ?_
    simp only [an137, ren_map, toks_map, boxes_map, st137, An.at_, tidyV, tidyW, tidyB, tidyT, sift, envBoxes, envToks, conToks, D.toks, D.tok1, toksL, D.boxes, D.box1, boxesL, memN, posN, renE, D.ren, D.ren1, renL, renB, St.content, St.boxOk, St.tokOk, trues, T3, T5, T68, T237, EL, e_finWf, e_finWt, e_finMN, e_finMX, retM, meltV, tupV, D.asBox, D.row1, D.freeR, D.freeO, List.replicate_succ, stepD, accs, accP, accW, simpleOp, isAl, isExt, flipD, D.fresh1, D.row, D.plain, D.plain.plainL, St.close, St.close1, St.borrow, retV, resV, resL, outCL, outC, outL, outD, wantedV, opV, An.mid, thawV, St.settle, D.plainU, prune, envOf, get, put, eval, evalT, nz, argsV, capsV, ofV, binV, binV.aggV, unV, intV, eqOp, isConst, natV, optV, loadV, loadC, storeV, setC, St.at_, partV, partTy, indexAddrV, fieldAddrV, sliceV, sliceV.rowSl, sliceV.strSl, bounds, cutP, builtinV, lenV, maxL, maxV, appendV, St.elems, roomy, rowOf, rowS, isStr, esz, tdOf, convV, buildV, fillV, partsV, okParts, fillL, D.whole, D.demoteC, D.demote, demoteL, D.global, D.flat, D.leaf, D.cells, TI.agg, TD.rowish, callOpV, moveL, CC, keepB, St.borrowL, St.borrow, D.isLsl, adoptR, adoptC, adoptCL, adoptL, adopt, List.toArray, Array.toList, Nat.reduceEqDiff, Nat.reduceAdd, Nat.reduceSub, Nat.reduceMul, Nat.reduceLeDiff, Nat.reduceLT, reduceIte, reduceCtorEq, forall_const, imp_self, Int.reduceNeg, Int.reduceLT, Int.reduceLE, Int.reduceGT, Int.reduceGE, Int.reduceAdd, Int.reduceSub, Int.reduceMul, Int.reduceToNat, Int.reduceEq, ne_eq, eq_self]
    rfl
  rintro x st' ⟨rfl, ρ, rfl, hg⟩
  simp only [hg, w2, moreS, T3, T5, T68, T237, EL, e_finWf, e_finWt, e_finMN, e_finMX, retM, meltV, tupV, D.asBox, D.row1, D.freeR, D.freeO, List.replicate_succ, stepD, accs, accP, accW, simpleOp, isAl, isExt, flipD, D.fresh1, D.row, D.plain, D.plain.plainL, St.close, St.close1, St.borrow, retV, resV, resL, outCL, outC, outL, outD, wantedV, opV, An.mid, thawV, St.settle, D.plainU, prune, envOf, get, put, eval, evalT, nz, argsV, capsV, ofV, binV, binV.aggV, unV, intV, eqOp, isConst, natV, optV, loadV, loadC, storeV, setC, St.at_, partV, partTy, indexAddrV, fieldAddrV, sliceV, sliceV.rowSl, sliceV.strSl, bounds, cutP, builtinV, lenV, maxL, maxV, appendV, St.elems, roomy, rowOf, rowS, isStr, esz, tdOf, convV, buildV, fillV, partsV, okParts, fillL, D.whole, D.demoteC, D.demote, demoteL, D.global, D.flat, D.leaf, D.cells, TI.agg, TD.rowish, callOpV, moveL, CC, keepB, St.borrowL, St.borrow, D.isLsl, adoptR, adoptC, adoptCL, adoptL, adopt, List.toArray, Array.toList, Nat.reduceEqDiff, Nat.reduceAdd, Nat.reduceSub, Nat.reduceMul, Nat.reduceLeDiff, Nat.reduceLT, reduceIte, reduceCtorEq, forall_const, imp_self, Int.reduceNeg, Int.reduceLT, Int.reduceLE, Int.reduceGT, Int.reduceGE, Int.reduceAdd, Int.reduceSub, Int.reduceMul, Int.reduceToNat, Int.reduceEq, ne_eq, eq_self]
theorem c137 (hC : LibCrc C) (s : Nat) (hs : s < 4294967296) (l : List UInt8) (hl : l.length ≤ 1000000) (B : Hp) : C 137 [.int .u32 s, .vec 1 (l.map byteD) .none] B = some (.int .u32 (moreS s l : Nat), B) := hC.f137 _ _ _ (run137 C s hs l hl B)

/-! ### Whether the last four are the sum -/
def be4 (a b c d : Nat) : Nat := ((a * 256 + b) * 256 + c) * 256 + d

def isL (l : List UInt8) : Bool := decide (4 ≤ l.length) && beN 0 (l.drop (l.length - 4)) == moreS 0 (l.take (l.length - 4))

theorem isL_four (x : List UInt8) (a b c d : UInt8) : isL (x ++ [a, b, c, d]) = (be4 a.toNat b.toNat c.toNat d.toNat == moreS 0 x) := by
  have h : (x ++ [a, b, c, d]).length - 4 = x.length := by simp
  unfold isL
  rw [h, List.drop_left, List.take_left]
  have h2 : decide (4 ≤ (x ++ [a, b, c, d]).length) = true := by simp
  rw [h2, Bool.true_and]
  simp [beN, be4]

theorem four_of {l : List UInt8} (h : 4 ≤ l.length) : ∃ x a b c d, l = x ++ [a, b, c, d] := by
  have h1 := List.take_append_drop (l.length - 4) l
  have h2 : (l.drop (l.length - 4)).length = 4 := by simp; omega
  generalize l.drop (l.length - 4) = r at h1 h2
  match r, h2 with
  | [a, b, c, d], _ => exact ⟨_, a, b, c, d, h1.symm⟩


set_option maxRecDepth 10000 in
theorem run138 (hC : LibCrc C) (l : List UInt8) (hl : l.length ≤ 1000000) (B : Hp) : runV T C fi138 [byV l .none] B = some (.bool (isL l), B) := by
  rw [e_run _ _ _ rfl]
  by_cases h4 : 4 ≤ l.length
  · obtain ⟨x, a, b, c, e, rfl⟩ := four_of h4
    have hx : (x ++ [a, b, c, e]).length = x.length + 4 := by simp
    rw [hx] at hl
    have w1 : IntKind.i64.wrap (((x.length + 4 : Nat) : Int) - 4) = x.length := by rw [wrapI (by omega) (by omega)]; omega
    have w2 : ¬ (x.length : Int) < 0 := by omega
    have w3 : (0 : Int) ≤ x.length := by omega
    have e1 : (x ++ [a, b, c, e]).drop x.length = [a, b, c, e] := List.drop_left
    have e2 : (x ++ [a, b, c, e]).take x.length = x := List.take_left
    have e3 : (x ++ [a, b, c, e]).take (x.length + 4) = x ++ [a, b, c, e] := List.take_of_length_le (by simp)
    have hb : be4 a.toNat b.toNat c.toNat e.toNat < 4294967296 := by
      have := a.toNat_lt; have := b.toNat_lt; have := c.toNat_lt; have := e.toNat_lt
      unfold be4; omega
    have h1 : ∀ B, C 161 [.vec 1 [byteD a, byteD b, byteD c, byteD e] .none] B = some (.tuple [.int .u64 (be4 a.toNat b.toNat c.toNat e.toNat : Nat), .nili], B) := fun B => by
      have := i161 hC.toLibIntC [a, b, c, e] B
      simp only [List.map_cons, List.map_nil] at this
      rw [this]
      simp [getS, beN, be4, errD]
    have h2 := c136 hC x (by omega)
    have h3 : IntKind.u32.wrap (be4 a.toNat b.toNat c.toNat e.toNat : Nat) = (be4 a.toNat b.toNat c.toNat e.toNat : Nat) := wrap_u32 (by omega) (by omega)
    have q1 : x.length ≤ x.length + 4 := by omega
    rw [isL_four]
    generalize be4 a.toNat b.toNat c.toNat e.toNat = u at h1 h3 ⊢
    generalize moreS 0 x = s at h2 ⊢
    have h5 : decide ((u : Int) = (s : Int)) = (u == s) := by
      rw [Bool.eq_iff_iff]; simp [Int.natCast_inj]
    simp only [fi138, Tryd.f138, an138, hx, w1, w2, w3, e1, e2, e3, h1, h2, h3, h5, q1, Int.toNat_natCast, T3, T5, T22, T33, T68, T237, EL, e_finWf, e_finWt, e_finMN, e_finMX, retM, meltV, tupV, D.asBox, D.row1, D.freeR, D.freeO, List.replicate_succ, stepD, accs, accP, accW, simpleOp, isAl, isExt, flipD, D.fresh1, D.row, D.plain, D.plain.plainL, St.close, St.close1, St.borrow, retV, resV, resL, outCL, outC, outL, outD, wantedV, opV, An.mid, thawV, St.settle, D.plainU, prune, envOf, get, put, eval, evalT, nz, argsV, capsV, ofV, binV, binV.aggV, unV, intV, eqOp, isConst, natV, optV, loadV, loadC, storeV, setC, St.at_, partV, partTy, indexAddrV, fieldAddrV, sliceV, sliceV.rowSl, sliceV.strSl, bounds, cutP, builtinV, lenV, maxL, maxV, appendV, St.elems, roomy, rowOf, rowS, isStr, esz, tdOf, convV, buildV, fillV, partsV, okParts, fillL, D.whole, D.demoteC, D.demote, demoteL, D.global, D.flat, D.leaf, D.cells, TI.agg, TD.rowish, callOpV, moveL, CC, keepB, St.borrowL, St.borrow, D.isLsl, adoptR, adoptC, adoptCL, adoptL, adopt, List.toArray, Array.toList, Nat.reduceEqDiff, Nat.reduceAdd, Nat.reduceSub, Nat.reduceMul, Nat.reduceLeDiff, Nat.reduceLT, reduceIte, reduceCtorEq, forall_const, imp_self, Int.reduceNeg, Int.reduceLT, Int.reduceLE, Int.reduceGT, Int.reduceGE, Int.reduceAdd, Int.reduceSub, Int.reduceMul, Int.reduceToNat, Int.reduceEq, ne_eq, eq_self]
  · have hb : isL l = false := by simp [isL, h4]
    have w1 : IntKind.i64.wrap ((l.length : Int) - 4) = (l.length : Int) - 4 := wrapI (by omega) (by omega)
    have w2 : (l.length : Int) - 4 < 0 := by omega
    rw [hb]
    simp only [fi138, Tryd.f138, an138, w1, w2, T3, T5, T22, T33, T68, T237, EL, e_finWf, e_finWt, e_finMN, e_finMX, retM, meltV, tupV, D.asBox, D.row1, D.freeR, D.freeO, List.replicate_succ, stepD, accs, accP, accW, simpleOp, isAl, isExt, flipD, D.fresh1, D.row, D.plain, D.plain.plainL, St.close, St.close1, St.borrow, retV, resV, resL, outCL, outC, outL, outD, wantedV, opV, An.mid, thawV, St.settle, D.plainU, prune, envOf, get, put, eval, evalT, nz, argsV, capsV, ofV, binV, binV.aggV, unV, intV, eqOp, isConst, natV, optV, loadV, loadC, storeV, setC, St.at_, partV, partTy, indexAddrV, fieldAddrV, sliceV, sliceV.rowSl, sliceV.strSl, bounds, cutP, builtinV, lenV, maxL, maxV, appendV, St.elems, roomy, rowOf, rowS, isStr, esz, tdOf, convV, buildV, fillV, partsV, okParts, fillL, D.whole, D.demoteC, D.demote, demoteL, D.global, D.flat, D.leaf, D.cells, TI.agg, TD.rowish, callOpV, moveL, CC, keepB, St.borrowL, St.borrow, D.isLsl, adoptR, adoptC, adoptCL, adoptL, adopt, List.toArray, Array.toList, Nat.reduceEqDiff, Nat.reduceAdd, Nat.reduceSub, Nat.reduceMul, Nat.reduceLeDiff, Nat.reduceLT, reduceIte, reduceCtorEq, forall_const, imp_self, Int.reduceNeg, Int.reduceLT, Int.reduceLE, Int.reduceGT, Int.reduceGE, Int.reduceAdd, Int.reduceSub, Int.reduceMul, Int.reduceToNat, Int.reduceEq, ne_eq, eq_self]
theorem c138 (hC : LibCrc C) (l : List UInt8) (hl : l.length ≤ 1000000) (B : Hp) : C 138 [.vec 1 (l.map byteD) .none] B = some (.bool (isL l), B) := hC.f138 _ _ _ (run138 hC l hl B)

end Go.Proofs.YtnhelkclkdfndaaDoor.V
