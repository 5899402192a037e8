/-
Layer 6, for other layers: a reader's bytes.
-/
import Derived.Test.YtfkhijjabkhmmaaDoorPB
namespace Go.Proofs.YtfkhijjabkhmmaaDoor.V
open Go Go.RowKit
set_option linter.unusedSimpArgs false
set_option linter.unusedVariables false

/-! (*warren/pack.Reader).Byte -/
def an72 : An := ⟨fun _ => .none, fun _ => 0, fun _ => false, fun _ => .none⟩
noncomputable def fi72 : FI := ⟨1, 29, Tryd.f72.body.getD .skip, Tryd.f72.results.toList, an72, false, false, false⟩
theorem ok72 : FnOk Tryd.prog 72 fi72 := ⟨⟨Tryd.f72, Tryd.func72, by kernel_rfl, rfl, rfl, rfl⟩, by decide, by kernel_rfl, fun h => by cases h⟩
/-! (*warren/pack.Reader).Bytes -/
def an71 : An := ⟨fun _ => .none, fun _ => 0, fun _ => false, fun _ => .none⟩
noncomputable def fi71 : FI := ⟨2, 41, Tryd.f71.body.getD .skip, Tryd.f71.results.toList, an71, false, false, false⟩
theorem ok71 : FnOk Tryd.prog 71 fi71 := ⟨⟨Tryd.f71, Tryd.func71, by kernel_rfl, rfl, rfl, rfl⟩, by decide, by kernel_rfl, fun h => by cases h⟩
/-! warren/pack.Bytes -/
def an66 : An := ⟨fun _ => .none, fun _ => 0, fun _ => false, fun _ => .none⟩
noncomputable def fi66 : FI := ⟨2, 12, Tryd.f66.body.getD .skip, Tryd.f66.results.toList, an66, false, false, false⟩
theorem ok66 : FnOk Tryd.prog 66 fi66 := ⟨⟨Tryd.f66, Tryd.func66, by kernel_rfl, rfl, rfl, rfl⟩, by decide, by kernel_rfl, fun h => by cases h⟩
/-! warren/warrenref06.Bytes -/
def an47 : An := ⟨fun _ => .none, fun _ => 0, fun | 6 => true | _ => false, fun _ => .none⟩
noncomputable def fi47 : FI := ⟨2, 36, Tryd.f47.body.getD .skip, Tryd.f47.results.toList, an47, false, false, false⟩
theorem ok47 : FnOk Tryd.prog 47 fi47 := ⟨⟨Tryd.f47, Tryd.func47, by kernel_rfl, rfl, rfl, rfl⟩, by decide, by kernel_rfl, fun h => by cases h⟩
/-! warren/warrenref06.Done -/
def an48 : An := ⟨fun _ => .none, fun _ => 0, fun _ => false, fun _ => .none⟩
noncomputable def fi48 : FI := ⟨1, 12, Tryd.f48.body.getD .skip, Tryd.f48.results.toList, an48, false, false, false⟩
theorem ok48 : FnOk Tryd.prog 48 fi48 := ⟨⟨Tryd.f48, Tryd.func48, by kernel_rfl, rfl, rfl, rfl⟩, by decide, by kernel_rfl, fun h => by cases h⟩
/-! warren/warrenref06.Put -/
def an52 : An := ⟨fun _ => .none, fun _ => 0, fun _ => false, fun _ => .none⟩
noncomputable def fi52 : FI := ⟨2, 12, Tryd.f52.body.getD .skip, Tryd.f52.results.toList, an52, false, false, false⟩
theorem ok52 : FnOk Tryd.prog 52 fi52 := ⟨⟨Tryd.f52, Tryd.func52, by kernel_rfl, rfl, rfl, rfl⟩, by decide, by kernel_rfl, fun h => by cases h⟩
structure LibPackB (C : Callees) : Prop extends LibPack C where
  f72 : Has T C 72 fi72
  f71 : Has T C 71 fi71
  f66 : Has T C 66 fi66
  f47 : Has T C 47 fi47
  f48 : Has T C 48 fi48
  f52 : Has T C 52 fi52

variable {C : Callees}

set_option maxRecDepth 10000 in
theorem run72 (hC : LibPack C) (s : RS) : runV T C fi72 [.bptr 0 0] [rdD s] = some (.int .u8 ((byteP s).2 : Nat), [rdD (byteP s).1]) := by
  rw [e_run _ _ _ rfl]
  rcases s with _ | _ | ⟨c, l⟩
  · have c0 := c70 hC .none
    unfold rdD at c0 ⊢
    simp only at c0
    simp only [fi72, Tryd.f72, an72, c0, byteP, pz0, T3, T4, T5, T23, T88, T127, EL, e_finWf, e_finWt, e_finMN, e_finMX, retM, meltV, tupV, D.asBox, D.row1, D.freeR, D.freeO, List.replicate_succ, stepD, accs, accP, accW, simpleOp, isAl, isExt, flipD, D.fresh1, D.row, D.plain, D.plain.plainL, St.close, St.close1, St.borrow, retV, resV, resL, outCL, outC, outL, outD, wantedV, opV, An.mid, thawV, St.settle, D.plainU, prune, envOf, get, put, eval, evalT, nz, argsV, capsV, ofV, binV, binV.aggV, unV, intV, eqOp, isConst, natV, optV, loadV, loadC, storeV, setC, St.at_, partV, partTy, indexAddrV, fieldAddrV, sliceV, sliceV.rowSl, sliceV.strSl, bounds, cutP, builtinV, lenV, maxL, maxV, appendV, St.elems, roomy, rowOf, rowS, isStr, esz, tdOf, convV, buildV, fillV, partsV, okParts, fillL, D.whole, D.demoteC, D.demote, demoteL, D.global, D.flat, D.leaf, D.cells, TI.agg, TD.rowish, callOpV, moveL, CC, keepB, St.borrowL, St.borrow, D.isLsl, adoptR, adoptC, adoptCL, adoptL, adopt, List.toArray, Array.toList, Nat.reduceEqDiff, Nat.reduceAdd, Nat.reduceSub, Nat.reduceMul, Nat.reduceLeDiff, Nat.reduceLT, reduceIte, reduceCtorEq, forall_const, imp_self, Int.reduceNeg, Int.reduceLT, Int.reduceLE, Int.reduceGT, Int.reduceGE, Int.reduceAdd, Int.reduceSub, Int.reduceMul, Int.reduceToNat, Int.reduceEq, ne_eq, eq_self]
  · have c0 := c70 hC (some [])
    unfold rdD at c0 ⊢
    simp only [List.map_nil] at c0
    simp only [fi72, Tryd.f72, an72, c0, byteP, pz0, T3, T4, T5, T23, T88, T127, EL, e_finWf, e_finWt, e_finMN, e_finMX, retM, meltV, tupV, D.asBox, D.row1, D.freeR, D.freeO, List.replicate_succ, stepD, accs, accP, accW, simpleOp, isAl, isExt, flipD, D.fresh1, D.row, D.plain, D.plain.plainL, St.close, St.close1, St.borrow, retV, resV, resL, outCL, outC, outL, outD, wantedV, opV, An.mid, thawV, St.settle, D.plainU, prune, envOf, get, put, eval, evalT, nz, argsV, capsV, ofV, binV, binV.aggV, unV, intV, eqOp, isConst, natV, optV, loadV, loadC, storeV, setC, St.at_, partV, partTy, indexAddrV, fieldAddrV, sliceV, sliceV.rowSl, sliceV.strSl, bounds, cutP, builtinV, lenV, maxL, maxV, appendV, St.elems, roomy, rowOf, rowS, isStr, esz, tdOf, convV, buildV, fillV, partsV, okParts, fillL, D.whole, D.demoteC, D.demote, demoteL, D.global, D.flat, D.leaf, D.cells, TI.agg, TD.rowish, callOpV, moveL, CC, keepB, St.borrowL, St.borrow, D.isLsl, adoptR, adoptC, adoptCL, adoptL, adopt, List.toArray, Array.toList, Nat.reduceEqDiff, Nat.reduceAdd, Nat.reduceSub, Nat.reduceMul, Nat.reduceLeDiff, Nat.reduceLT, reduceIte, reduceCtorEq, forall_const, imp_self, Int.reduceNeg, Int.reduceLT, Int.reduceLE, Int.reduceGT, Int.reduceGE, Int.reduceAdd, Int.reduceSub, Int.reduceMul, Int.reduceToNat, Int.reduceEq, ne_eq, eq_self]
  · unfold rdD
    have h0 : ¬ ((l.length + 1 : Nat) : Int) = 0 := by omega
    have h1 : l.length + 1 ≤ l.length + 1 := Nat.le_refl _
    have h2 : 1 ≤ l.length + 1 := by omega
    have h3 : 0 ≤ l.length := by omega
    simp only [fi72, Tryd.f72, an72, h0, h1, h2, h3, byteP, pz0, byteD, List.take_length, Nat.zero_lt_succ, T3, T4, T5, T23, T88, T127, EL, e_finWf, e_finWt, e_finMN, e_finMX, retM, meltV, tupV, D.asBox, D.row1, D.freeR, D.freeO, List.replicate_succ, stepD, accs, accP, accW, simpleOp, isAl, isExt, flipD, D.fresh1, D.row, D.plain, D.plain.plainL, St.close, St.close1, St.borrow, retV, resV, resL, outCL, outC, outL, outD, wantedV, opV, An.mid, thawV, St.settle, D.plainU, prune, envOf, get, put, eval, evalT, nz, argsV, capsV, ofV, binV, binV.aggV, unV, intV, eqOp, isConst, natV, optV, loadV, loadC, storeV, setC, St.at_, partV, partTy, indexAddrV, fieldAddrV, sliceV, sliceV.rowSl, sliceV.strSl, bounds, cutP, builtinV, lenV, maxL, maxV, appendV, St.elems, roomy, rowOf, rowS, isStr, esz, tdOf, convV, buildV, fillV, partsV, okParts, fillL, D.whole, D.demoteC, D.demote, demoteL, D.global, D.flat, D.leaf, D.cells, TI.agg, TD.rowish, callOpV, moveL, CC, keepB, St.borrowL, St.borrow, D.isLsl, adoptR, adoptC, adoptCL, adoptL, adopt, List.toArray, Array.toList, Nat.reduceEqDiff, Nat.reduceAdd, Nat.reduceSub, Nat.reduceMul, Nat.reduceLeDiff, Nat.reduceLT, reduceIte, reduceCtorEq, forall_const, imp_self, Int.reduceNeg, Int.reduceLT, Int.reduceLE, Int.reduceGT, Int.reduceGE, Int.reduceAdd, Int.reduceSub, Int.reduceMul, Int.reduceToNat, Int.reduceEq, ne_eq, eq_self]
theorem c72 (hC : LibPackB C) (s : RS) : C 72 [.bptr 0 0] [rdD s] = some (.int .u8 ((byteP s).2 : Nat), [rdD (byteP s).1]) := hC.f72 _ _ _ (run72 hC.toLibPack s)

theorem rdD_some (l : List UInt8) : rdD (some l) = [.vec 1 (l.map byteD) .none, .bool false] := rfl
theorem rdD_none : rdD .none = [.vec 1 [] .exact, .bool true] := rfl

set_option maxRecDepth 10000 in
theorem run71 (hC : LibPackB C) (s : RS) (m : Nat) (h0 : 0 < m) (hm : m ≤ 1000000) (hs : ∀ l, s = some l → l.length ≤ 1000000) : runV T C fi71 [.bptr 0 0, .int .i64 (m : Nat)] [rdD s] = some (.vec 1 ((bytesP s m).2.map byteD) .fresh, [rdD (bytesP s m).1]) := by
  rw [e_run _ _ _ rfl]
  have g0 : (m : Int) > 0 := by omega
  have w0 : IntKind.u64.wrap (m : Int) = m := wrap_u64 (by omega) (by omega)
  have c1 := c43 hC.toLibPack s m hs
  have hb := numP_bnd s m
  have hlen : ∀ l, (numP s m).1 = some l → l.length ≤ 1000000 := fun l h => by
    cases s with
    | none => cases h
    | some q =>
      have := numS_len (l := q) (r := l) (m := m) (n := (numS q m).2) (by rw [← h]; rfl)
      have := hs q rfl
      omega
  unfold bytesP
  rcases hx : numP s m with ⟨q, n⟩
  rw [hx] at c1 hb hlen
  simp only at c1 hb hlen
  have w1 : IntKind.i64.wrap (n : Int) = n := wrapI (by omega) (by omega)
  cases q with
  | none =>
    have hn : n = 0 := by
      have := numP_zero (s := s) (m := m) (by rw [hx])
      rw [hx] at this; exact this
    subst hn
    have c2 : ∀ B, C 68 [.vec 1 [] .none] B = some (.vec 1 [] .fresh, B) := fun B => hC.vclone [] B (by decide)
    rw [rdD_none] at c1 ⊢
    have g3 : ¬ (0 : Int) > 0 := by decide
    have w10 : IntKind.i64.wrap 0 = 0 := rfl
    simp only [fi71, Tryd.f71, an71, g0, w0, c1, c2, w10, pz0, g3, T3, T4, T5, T23, T84, T88, T127, EL, e_finWf, e_finWt, e_finMN, e_finMX, retM, meltV, tupV, D.asBox, D.row1, D.freeR, D.freeO, List.replicate_succ, stepD, accs, accP, accW, simpleOp, isAl, isExt, flipD, D.fresh1, D.row, D.plain, D.plain.plainL, St.close, St.close1, St.borrow, retV, resV, resL, outCL, outC, outL, outD, wantedV, opV, An.mid, thawV, St.settle, D.plainU, prune, envOf, get, put, eval, evalT, nz, argsV, capsV, ofV, binV, binV.aggV, unV, intV, eqOp, isConst, natV, optV, loadV, loadC, storeV, setC, St.at_, partV, partTy, indexAddrV, fieldAddrV, sliceV, sliceV.rowSl, sliceV.strSl, bounds, cutP, builtinV, lenV, maxL, maxV, appendV, St.elems, roomy, rowOf, rowS, isStr, esz, tdOf, convV, buildV, fillV, partsV, okParts, fillL, D.whole, D.demoteC, D.demote, demoteL, D.global, D.flat, D.leaf, D.cells, TI.agg, TD.rowish, callOpV, moveL, CC, keepB, St.borrowL, St.borrow, D.isLsl, adoptR, adoptC, adoptCL, adoptL, adopt, List.toArray, Array.toList, Nat.reduceEqDiff, Nat.reduceAdd, Nat.reduceSub, Nat.reduceMul, Nat.reduceLeDiff, Nat.reduceLT, reduceIte, reduceCtorEq, forall_const, imp_self, Int.reduceNeg, Int.reduceLT, Int.reduceLE, Int.reduceGT, Int.reduceGE, Int.reduceAdd, Int.reduceSub, Int.reduceMul, Int.reduceToNat, Int.reduceEq, ne_eq, eq_self]
  | some l =>
    have hl := hlen l rfl
    have c0 := c70 hC.toLibPack (some l)
    rw [rdD_some] at c1 c0
    rw [rdD_none] at c0
    by_cases hle : n ≤ l.length
    · have g1 : ¬ (n : Int) > l.length := by omega
      have g2 := pnat n
      have c2 := fun B => hC.vclone (l.take n) B (by rw [List.length_take]; omega)
      simp only [hle, if_true]
      rw [rdD_some]
      simp only [fi71, Tryd.f71, an71, g0, w0, c1, c2, w1, g1, g2, hle, Int.toNat_natCast, List.take_length, T3, T4, T5, T23, T84, T88, T127, EL, e_finWf, e_finWt, e_finMN, e_finMX, retM, meltV, tupV, D.asBox, D.row1, D.freeR, D.freeO, List.replicate_succ, stepD, accs, accP, accW, simpleOp, isAl, isExt, flipD, D.fresh1, D.row, D.plain, D.plain.plainL, St.close, St.close1, St.borrow, retV, resV, resL, outCL, outC, outL, outD, wantedV, opV, An.mid, thawV, St.settle, D.plainU, prune, envOf, get, put, eval, evalT, nz, argsV, capsV, ofV, binV, binV.aggV, unV, intV, eqOp, isConst, natV, optV, loadV, loadC, storeV, setC, St.at_, partV, partTy, indexAddrV, fieldAddrV, sliceV, sliceV.rowSl, sliceV.strSl, bounds, cutP, builtinV, lenV, maxL, maxV, appendV, St.elems, roomy, rowOf, rowS, isStr, esz, tdOf, convV, buildV, fillV, partsV, okParts, fillL, D.whole, D.demoteC, D.demote, demoteL, D.global, D.flat, D.leaf, D.cells, TI.agg, TD.rowish, callOpV, moveL, CC, keepB, St.borrowL, St.borrow, D.isLsl, adoptR, adoptC, adoptCL, adoptL, adopt, List.toArray, Array.toList, Nat.reduceEqDiff, Nat.reduceAdd, Nat.reduceSub, Nat.reduceMul, Nat.reduceLeDiff, Nat.reduceLT, reduceIte, reduceCtorEq, forall_const, imp_self, Int.reduceNeg, Int.reduceLT, Int.reduceLE, Int.reduceGT, Int.reduceGE, Int.reduceAdd, Int.reduceSub, Int.reduceMul, Int.reduceToNat, Int.reduceEq, ne_eq, eq_self]
    · have g1 : (n : Int) > l.length := by omega
      simp only [hle, if_false]
      rw [rdD_none]
      simp only [fi71, Tryd.f71, an71, g0, w0, c1, c0, w1, g1, T3, T4, T5, T23, T84, T88, T127, EL, e_finWf, e_finWt, e_finMN, e_finMX, retM, meltV, tupV, D.asBox, D.row1, D.freeR, D.freeO, List.replicate_succ, stepD, accs, accP, accW, simpleOp, isAl, isExt, flipD, D.fresh1, D.row, D.plain, D.plain.plainL, St.close, St.close1, St.borrow, retV, resV, resL, outCL, outC, outL, outD, wantedV, opV, An.mid, thawV, St.settle, D.plainU, prune, envOf, get, put, eval, evalT, nz, argsV, capsV, ofV, binV, binV.aggV, unV, intV, eqOp, isConst, natV, optV, loadV, loadC, storeV, setC, St.at_, partV, partTy, indexAddrV, fieldAddrV, sliceV, sliceV.rowSl, sliceV.strSl, bounds, cutP, builtinV, lenV, maxL, maxV, appendV, St.elems, roomy, rowOf, rowS, isStr, esz, tdOf, convV, buildV, fillV, partsV, okParts, fillL, D.whole, D.demoteC, D.demote, demoteL, D.global, D.flat, D.leaf, D.cells, TI.agg, TD.rowish, callOpV, moveL, CC, keepB, St.borrowL, St.borrow, D.isLsl, adoptR, adoptC, adoptCL, adoptL, adopt, List.toArray, Array.toList, Nat.reduceEqDiff, Nat.reduceAdd, Nat.reduceSub, Nat.reduceMul, Nat.reduceLeDiff, Nat.reduceLT, reduceIte, reduceCtorEq, forall_const, imp_self, Int.reduceNeg, Int.reduceLT, Int.reduceLE, Int.reduceGT, Int.reduceGE, Int.reduceAdd, Int.reduceSub, Int.reduceMul, Int.reduceToNat, Int.reduceEq, ne_eq, eq_self]
theorem c71 (hC : LibPackB C) (s : RS) (m : Nat) (h0 : 0 < m) (hm : m ≤ 1000000) (hs : ∀ l, s = some l → l.length ≤ 1000000) : C 71 [.bptr 0 0, .int .i64 (m : Nat)] [rdD s] = some (.vec 1 ((bytesP s m).2.map byteD) .fresh, [rdD (bytesP s m).1]) := hC.f71 _ _ _ (run71 hC s m h0 hm hs)

def leftS : RS → Nat
  | some l => l.length
  | .none => 0
set_option maxRecDepth 10000 in
theorem run66 (hC : LibPackB C) (l x : List UInt8) (hl : l.length ≤ 100000) (hx : x.length ≤ 100000) (B : Hp) : runV T C fi66 [bvV l .none, bvV x .none] B = some (.vec 1 ((l ++ vputS x.length ++ x).map byteD) .fresh, B) := by
  rw [e_run _ _ _ rfl]
  have w1 : IntKind.u64.wrap (x.length : Int) = x.length := wrap_u64 (by omega) (by omega)
  have c1 := c65 hC.toLibVar l x.length (by omega) (by omega)
  have hv := vputS_len10 (v := x.length) (by omega)
  have a1 := fun ρ M B => vappO (xs := l ++ vputS x.length) (ys := x) (by rw [List.length_append]; omega) ρ M B
  simp only [fi66, Tryd.f66, an66, w1, c1, a1, T3, T5, T23, T84, EL, e_finWf, e_finWt, e_finMN, e_finMX, retM, meltV, tupV, D.asBox, D.row1, D.freeR, D.freeO, List.replicate_succ, stepD, accs, accP, accW, simpleOp, isAl, isExt, flipD, D.fresh1, D.row, D.plain, D.plain.plainL, St.close, St.close1, St.borrow, retV, resV, resL, outCL, outC, outL, outD, wantedV, opV, An.mid, thawV, St.settle, D.plainU, prune, envOf, get, put, eval, evalT, nz, argsV, capsV, ofV, binV, binV.aggV, unV, intV, eqOp, isConst, natV, optV, loadV, loadC, storeV, setC, St.at_, partV, partTy, indexAddrV, fieldAddrV, sliceV, sliceV.rowSl, sliceV.strSl, bounds, cutP, builtinV, lenV, maxL, maxV, St.elems, roomy, rowOf, rowS, isStr, esz, tdOf, convV, buildV, fillV, partsV, okParts, fillL, D.whole, D.demoteC, D.demote, demoteL, D.global, D.flat, D.leaf, D.cells, TI.agg, TD.rowish, callOpV, moveL, CC, keepB, St.borrowL, St.borrow, D.isLsl, adoptR, adoptC, adoptCL, adoptL, adopt, List.toArray, Array.toList, Nat.reduceEqDiff, Nat.reduceAdd, Nat.reduceSub, Nat.reduceMul, Nat.reduceLeDiff, Nat.reduceLT, reduceIte, reduceCtorEq, forall_const, imp_self, Int.reduceNeg, Int.reduceLT, Int.reduceLE, Int.reduceGT, Int.reduceGE, Int.reduceAdd, Int.reduceSub, Int.reduceMul, Int.reduceToNat, Int.reduceEq, ne_eq, eq_self]
theorem c66 (hC : LibPackB C) (l x : List UInt8) (hl : l.length ≤ 100000) (hx : x.length ≤ 100000) (B : Hp) : C 66 [.vec 1 (l.map byteD) .none, .vec 1 (x.map byteD) .none] B = some (.vec 1 ((l ++ vputS x.length ++ x).map byteD) .fresh, B) := hC.f66 _ _ _ (run66 hC l x hl hx B)

/-! ### The document's -/
def rbD (r : RS × List UInt8) : D := match r with
  | (some l, x) => .tuple [.agg [.vec 1 (l.map byteD) .none, .bool false], .vec 1 (x.map byteD) .none]
  | (.none, _) => .tuple [.agg [.vec 1 [] .fresh, .bool true], .vec 1 [] .fresh]

set_option maxRecDepth 10000 in
theorem run47 (hC : LibPackB C) (l : List UInt8) (w : Bool) (m : Nat) (hm : m ≤ 1000000) (hl : l.length ≤ 1000000) (B : Hp) : runV T C fi47 [.agg [.vec 1 (l.map byteD) .none, .bool w], .int .i64 (m : Nat)] B = some (rbD (bytesP (some l) m), B) := by
  rw [e_run _ _ _ rfl]
  have g0 : ¬ (m : Int) < 0 := by omega
  have w0 : IntKind.u64.wrap (m : Int) = m := wrap_u64 (by omega) (by omega)
  have c1 := c46 hC.toLibPack l w m hl
  have hb := numS_bnd l m
  unfold bytesP
  simp only [numP]
  rcases hx : numS l m with ⟨q, n⟩
  rw [hx] at c1 hb
  simp only at c1 hb
  cases q with
  | none =>
    unfold rfD at c1
    simp only at c1
    simp only [fi47, Tryd.f47, an47, g0, w0, c1, rbD, pz0, T3, T4, T5, T23, T84, T94, EL, e_finWf, e_finWt, e_finMN, e_finMX, retM, meltV, tupV, D.asBox, D.row1, D.freeR, D.freeO, List.replicate_succ, stepD, accs, accP, accW, simpleOp, isAl, isExt, flipD, D.fresh1, D.row, D.plain, D.plain.plainL, St.close, St.close1, St.borrow, retV, resV, resL, outCL, outC, outL, outD, wantedV, opV, An.mid, thawV, St.settle, D.plainU, prune, envOf, get, put, eval, evalT, nz, argsV, capsV, ofV, binV, binV.aggV, unV, intV, eqOp, isConst, natV, optV, loadV, loadC, storeV, setC, St.at_, partV, partTy, indexAddrV, fieldAddrV, sliceV, sliceV.rowSl, sliceV.strSl, bounds, cutP, builtinV, lenV, maxL, maxV, appendV, St.elems, roomy, rowOf, rowS, isStr, esz, tdOf, convV, buildV, fillV, partsV, okParts, fillL, D.whole, D.demoteC, D.demote, demoteL, D.global, D.flat, D.leaf, D.cells, TI.agg, TD.rowish, callOpV, moveL, CC, keepB, St.borrowL, St.borrow, D.isLsl, adoptR, adoptC, adoptCL, adoptL, adopt, List.toArray, Array.toList, Nat.reduceEqDiff, Nat.reduceAdd, Nat.reduceSub, Nat.reduceMul, Nat.reduceLeDiff, Nat.reduceLT, reduceIte, reduceCtorEq, forall_const, imp_self, Int.reduceNeg, Int.reduceLT, Int.reduceLE, Int.reduceGT, Int.reduceGE, Int.reduceAdd, Int.reduceSub, Int.reduceMul, Int.reduceToNat, Int.reduceEq, ne_eq, eq_self]
  | some r =>
    have hlen := numS_len hx
    have w1 : IntKind.u64.wrap (r.length : Int) = r.length := wrap_u64 (by omega) (by omega)
    unfold rfD at c1
    simp only at c1
    by_cases hle : n ≤ r.length
    · have g1 : ¬ (n : Int) > r.length := by omega
      have g2 := pnat n
      simp only [hle, if_true]
      simp only [fi47, Tryd.f47, an47, g0, w0, c1, w1, g1, g2, hle, rbD, Int.toNat_natCast, List.take_length, T3, T4, T5, T23, T84, T94, EL, e_finWf, e_finWt, e_finMN, e_finMX, retM, meltV, tupV, D.asBox, D.row1, D.freeR, D.freeO, List.replicate_succ, stepD, accs, accP, accW, simpleOp, isAl, isExt, flipD, D.fresh1, D.row, D.plain, D.plain.plainL, St.close, St.close1, St.borrow, retV, resV, resL, outCL, outC, outL, outD, wantedV, opV, An.mid, thawV, St.settle, D.plainU, prune, envOf, get, put, eval, evalT, nz, argsV, capsV, ofV, binV, binV.aggV, unV, intV, eqOp, isConst, natV, optV, loadV, loadC, storeV, setC, St.at_, partV, partTy, indexAddrV, fieldAddrV, sliceV, sliceV.rowSl, sliceV.strSl, bounds, cutP, builtinV, lenV, maxL, maxV, appendV, St.elems, roomy, rowOf, rowS, isStr, esz, tdOf, convV, buildV, fillV, partsV, okParts, fillL, D.whole, D.demoteC, D.demote, demoteL, D.global, D.flat, D.leaf, D.cells, TI.agg, TD.rowish, callOpV, moveL, CC, keepB, St.borrowL, St.borrow, D.isLsl, adoptR, adoptC, adoptCL, adoptL, adopt, List.toArray, Array.toList, Nat.reduceEqDiff, Nat.reduceAdd, Nat.reduceSub, Nat.reduceMul, Nat.reduceLeDiff, Nat.reduceLT, reduceIte, reduceCtorEq, forall_const, imp_self, Int.reduceNeg, Int.reduceLT, Int.reduceLE, Int.reduceGT, Int.reduceGE, Int.reduceAdd, Int.reduceSub, Int.reduceMul, Int.reduceToNat, Int.reduceEq, ne_eq, eq_self]
      refine' dyn_done (fin T _ _ _) ?hd ?he
      case hd => kernel_rfl
      simp only [List.take_length, T3, T4, T5, T23, T84, T94, EL, e_finWf, e_finWt, e_finMN, e_finMX, retM, meltV, tupV, D.asBox, D.row1, D.freeR, D.freeO, List.replicate_succ, stepD, accs, accP, accW, simpleOp, isAl, isExt, flipD, D.fresh1, D.row, D.plain, D.plain.plainL, St.close, St.close1, St.borrow, retV, resV, resL, outCL, outC, outL, outD, wantedV, opV, An.mid, thawV, St.settle, D.plainU, prune, envOf, get, put, eval, evalT, nz, argsV, capsV, ofV, binV, binV.aggV, unV, intV, eqOp, isConst, natV, optV, loadV, loadC, storeV, setC, St.at_, partV, partTy, indexAddrV, fieldAddrV, sliceV, sliceV.rowSl, sliceV.strSl, bounds, cutP, builtinV, lenV, maxL, maxV, appendV, St.elems, roomy, rowOf, rowS, isStr, esz, tdOf, convV, buildV, fillV, partsV, okParts, fillL, D.whole, D.demoteC, D.demote, demoteL, D.global, D.flat, D.leaf, D.cells, TI.agg, TD.rowish, callOpV, moveL, CC, keepB, St.borrowL, St.borrow, D.isLsl, adoptR, adoptC, adoptCL, adoptL, adopt, List.toArray, Array.toList, Nat.reduceEqDiff, Nat.reduceAdd, Nat.reduceSub, Nat.reduceMul, Nat.reduceLeDiff, Nat.reduceLT, reduceIte, reduceCtorEq, forall_const, imp_self, Int.reduceNeg, Int.reduceLT, Int.reduceLE, Int.reduceGT, Int.reduceGE, Int.reduceAdd, Int.reduceSub, Int.reduceMul, Int.reduceToNat, Int.reduceEq, ne_eq, eq_self]
    · have g1 : (n : Int) > r.length := by omega
      simp only [hle, if_false]
      simp only [fi47, Tryd.f47, an47, g0, w0, c1, w1, g1, rbD, T3, T4, T5, T23, T84, T94, EL, e_finWf, e_finWt, e_finMN, e_finMX, retM, meltV, tupV, D.asBox, D.row1, D.freeR, D.freeO, List.replicate_succ, stepD, accs, accP, accW, simpleOp, isAl, isExt, flipD, D.fresh1, D.row, D.plain, D.plain.plainL, St.close, St.close1, St.borrow, retV, resV, resL, outCL, outC, outL, outD, wantedV, opV, An.mid, thawV, St.settle, D.plainU, prune, envOf, get, put, eval, evalT, nz, argsV, capsV, ofV, binV, binV.aggV, unV, intV, eqOp, isConst, natV, optV, loadV, loadC, storeV, setC, St.at_, partV, partTy, indexAddrV, fieldAddrV, sliceV, sliceV.rowSl, sliceV.strSl, bounds, cutP, builtinV, lenV, maxL, maxV, appendV, St.elems, roomy, rowOf, rowS, isStr, esz, tdOf, convV, buildV, fillV, partsV, okParts, fillL, D.whole, D.demoteC, D.demote, demoteL, D.global, D.flat, D.leaf, D.cells, TI.agg, TD.rowish, callOpV, moveL, CC, keepB, St.borrowL, St.borrow, D.isLsl, adoptR, adoptC, adoptCL, adoptL, adopt, List.toArray, Array.toList, Nat.reduceEqDiff, Nat.reduceAdd, Nat.reduceSub, Nat.reduceMul, Nat.reduceLeDiff, Nat.reduceLT, reduceIte, reduceCtorEq, forall_const, imp_self, Int.reduceNeg, Int.reduceLT, Int.reduceLE, Int.reduceGT, Int.reduceGE, Int.reduceAdd, Int.reduceSub, Int.reduceMul, Int.reduceToNat, Int.reduceEq, ne_eq, eq_self]
theorem c47 (hC : LibPackB C) (l : List UInt8) (w : Bool) (m : Nat) (hm : m ≤ 1000000) (hl : l.length ≤ 1000000) (B : Hp) : C 47 [.agg [.vec 1 (l.map byteD) .none, .bool w], .int .i64 (m : Nat)] B = some (rbD (bytesP (some l) m), B) := hC.f47 _ _ _ (run47 hC l w m hm hl B)

set_option maxRecDepth 10000 in
theorem run48 (C : Callees) (l : List UInt8) (w : Bool) (B : Hp) : runV T C fi48 [.agg [.vec 1 (l.map byteD) .none, .bool w]] B = some (.bool (!w && l.isEmpty), B) := by
  rw [e_run _ _ _ rfl]
  cases w
  · cases l with
    | nil => simp only [fi48, Tryd.f48, an48, pz0, T3, T4, T5, T23, T94, EL, e_finWf, e_finWt, e_finMN, e_finMX, retM, meltV, tupV, D.asBox, D.row1, D.freeR, D.freeO, List.replicate_succ, stepD, accs, accP, accW, simpleOp, isAl, isExt, flipD, D.fresh1, D.row, D.plain, D.plain.plainL, St.close, St.close1, St.borrow, retV, resV, resL, outCL, outC, outL, outD, wantedV, opV, An.mid, thawV, St.settle, D.plainU, prune, envOf, get, put, eval, evalT, nz, argsV, capsV, ofV, binV, binV.aggV, unV, intV, eqOp, isConst, natV, optV, loadV, loadC, storeV, setC, St.at_, partV, partTy, indexAddrV, fieldAddrV, sliceV, sliceV.rowSl, sliceV.strSl, bounds, cutP, builtinV, lenV, maxL, maxV, appendV, St.elems, roomy, rowOf, rowS, isStr, esz, tdOf, convV, buildV, fillV, partsV, okParts, fillL, D.whole, D.demoteC, D.demote, demoteL, D.global, D.flat, D.leaf, D.cells, TI.agg, TD.rowish, callOpV, moveL, CC, keepB, St.borrowL, St.borrow, D.isLsl, adoptR, adoptC, adoptCL, adoptL, adopt, List.toArray, Array.toList, Nat.reduceEqDiff, Nat.reduceAdd, Nat.reduceSub, Nat.reduceMul, Nat.reduceLeDiff, Nat.reduceLT, reduceIte, reduceCtorEq, forall_const, imp_self, Int.reduceNeg, Int.reduceLT, Int.reduceLE, Int.reduceGT, Int.reduceGE, Int.reduceAdd, Int.reduceSub, Int.reduceMul, Int.reduceToNat, Int.reduceEq, ne_eq, eq_self]
    | cons c l =>
      have h0 : ¬ ((l.length + 1 : Nat) : Int) = 0 := by omega
      simp only [fi48, Tryd.f48, an48, h0, T3, T4, T5, T23, T94, EL, e_finWf, e_finWt, e_finMN, e_finMX, retM, meltV, tupV, D.asBox, D.row1, D.freeR, D.freeO, List.replicate_succ, stepD, accs, accP, accW, simpleOp, isAl, isExt, flipD, D.fresh1, D.row, D.plain, D.plain.plainL, St.close, St.close1, St.borrow, retV, resV, resL, outCL, outC, outL, outD, wantedV, opV, An.mid, thawV, St.settle, D.plainU, prune, envOf, get, put, eval, evalT, nz, argsV, capsV, ofV, binV, binV.aggV, unV, intV, eqOp, isConst, natV, optV, loadV, loadC, storeV, setC, St.at_, partV, partTy, indexAddrV, fieldAddrV, sliceV, sliceV.rowSl, sliceV.strSl, bounds, cutP, builtinV, lenV, maxL, maxV, appendV, St.elems, roomy, rowOf, rowS, isStr, esz, tdOf, convV, buildV, fillV, partsV, okParts, fillL, D.whole, D.demoteC, D.demote, demoteL, D.global, D.flat, D.leaf, D.cells, TI.agg, TD.rowish, callOpV, moveL, CC, keepB, St.borrowL, St.borrow, D.isLsl, adoptR, adoptC, adoptCL, adoptL, adopt, List.toArray, Array.toList, Nat.reduceEqDiff, Nat.reduceAdd, Nat.reduceSub, Nat.reduceMul, Nat.reduceLeDiff, Nat.reduceLT, reduceIte, reduceCtorEq, forall_const, imp_self, Int.reduceNeg, Int.reduceLT, Int.reduceLE, Int.reduceGT, Int.reduceGE, Int.reduceAdd, Int.reduceSub, Int.reduceMul, Int.reduceToNat, Int.reduceEq, ne_eq, eq_self]
  · simp only [fi48, Tryd.f48, an48, T3, T4, T5, T23, T94, EL, e_finWf, e_finWt, e_finMN, e_finMX, retM, meltV, tupV, D.asBox, D.row1, D.freeR, D.freeO, List.replicate_succ, stepD, accs, accP, accW, simpleOp, isAl, isExt, flipD, D.fresh1, D.row, D.plain, D.plain.plainL, St.close, St.close1, St.borrow, retV, resV, resL, outCL, outC, outL, outD, wantedV, opV, An.mid, thawV, St.settle, D.plainU, prune, envOf, get, put, eval, evalT, nz, argsV, capsV, ofV, binV, binV.aggV, unV, intV, eqOp, isConst, natV, optV, loadV, loadC, storeV, setC, St.at_, partV, partTy, indexAddrV, fieldAddrV, sliceV, sliceV.rowSl, sliceV.strSl, bounds, cutP, builtinV, lenV, maxL, maxV, appendV, St.elems, roomy, rowOf, rowS, isStr, esz, tdOf, convV, buildV, fillV, partsV, okParts, fillL, D.whole, D.demoteC, D.demote, demoteL, D.global, D.flat, D.leaf, D.cells, TI.agg, TD.rowish, callOpV, moveL, CC, keepB, St.borrowL, St.borrow, D.isLsl, adoptR, adoptC, adoptCL, adoptL, adopt, List.toArray, Array.toList, Nat.reduceEqDiff, Nat.reduceAdd, Nat.reduceSub, Nat.reduceMul, Nat.reduceLeDiff, Nat.reduceLT, reduceIte, reduceCtorEq, forall_const, imp_self, Int.reduceNeg, Int.reduceLT, Int.reduceLE, Int.reduceGT, Int.reduceGE, Int.reduceAdd, Int.reduceSub, Int.reduceMul, Int.reduceToNat, Int.reduceEq, ne_eq, eq_self]
theorem c48 (hC : LibPackB C) (l : List UInt8) (w : Bool) (B : Hp) : C 48 [.agg [.vec 1 (l.map byteD) .none, .bool w]] B = some (.bool (!w && l.isEmpty), B) := hC.f48 _ _ _ (run48 C l w B)

set_option maxRecDepth 10000 in
theorem run52 (hC : LibPackB C) (l x : List UInt8) (hl : l.length ≤ 100000) (hx : x.length ≤ 100000) (B : Hp) : runV T C fi52 [bvV l .none, bvV x .none] B = some (.vec 1 ((l ++ vputS x.length ++ x).map byteD) .fresh, B) := by
  rw [e_run _ _ _ rfl]
  have w1 : IntKind.u64.wrap (x.length : Int) = x.length := wrap_u64 (by omega) (by omega)
  have c1 := c40 hC.toLibVar l x.length (by omega) (by omega)
  have hv := vputS_len10 (v := x.length) (by omega)
  have a1 := fun ρ M B => vappO (xs := l ++ vputS x.length) (ys := x) (by rw [List.length_append]; omega) ρ M B
  simp only [fi52, Tryd.f52, an52, w1, c1, a1, T3, T5, T23, T84, EL, e_finWf, e_finWt, e_finMN, e_finMX, retM, meltV, tupV, D.asBox, D.row1, D.freeR, D.freeO, List.replicate_succ, stepD, accs, accP, accW, simpleOp, isAl, isExt, flipD, D.fresh1, D.row, D.plain, D.plain.plainL, St.close, St.close1, St.borrow, retV, resV, resL, outCL, outC, outL, outD, wantedV, opV, An.mid, thawV, St.settle, D.plainU, prune, envOf, get, put, eval, evalT, nz, argsV, capsV, ofV, binV, binV.aggV, unV, intV, eqOp, isConst, natV, optV, loadV, loadC, storeV, setC, St.at_, partV, partTy, indexAddrV, fieldAddrV, sliceV, sliceV.rowSl, sliceV.strSl, bounds, cutP, builtinV, lenV, maxL, maxV, St.elems, roomy, rowOf, rowS, isStr, esz, tdOf, convV, buildV, fillV, partsV, okParts, fillL, D.whole, D.demoteC, D.demote, demoteL, D.global, D.flat, D.leaf, D.cells, TI.agg, TD.rowish, callOpV, moveL, CC, keepB, St.borrowL, St.borrow, D.isLsl, adoptR, adoptC, adoptCL, adoptL, adopt, List.toArray, Array.toList, Nat.reduceEqDiff, Nat.reduceAdd, Nat.reduceSub, Nat.reduceMul, Nat.reduceLeDiff, Nat.reduceLT, reduceIte, reduceCtorEq, forall_const, imp_self, Int.reduceNeg, Int.reduceLT, Int.reduceLE, Int.reduceGT, Int.reduceGE, Int.reduceAdd, Int.reduceSub, Int.reduceMul, Int.reduceToNat, Int.reduceEq, ne_eq, eq_self]
theorem c52 (hC : LibPackB C) (l x : List UInt8) (hl : l.length ≤ 100000) (hx : x.length ≤ 100000) (B : Hp) : C 52 [.vec 1 (l.map byteD) .none, .vec 1 (x.map byteD) .none] B = some (.vec 1 ((l ++ vputS x.length ++ x).map byteD) .fresh, B) := hC.f52 _ _ _ (run52 hC l x hl hx B)

end Go.Proofs.YtfkhijjabkhmmaaDoor.V
