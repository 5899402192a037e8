/-
Layer 18: sure.
-/
import Derived.Test.YtnhelkclkdfndaaDoorRG
namespace Go.Proofs.YtnhelkclkdfndaaDoor.V
open Go Go.RowKit
set_option linter.unusedSimpArgs false
set_option linter.unusedVariables false

/-! warren/warrenlaw18.sure -/
def an14 : An := ⟨fun _ => .none, fun _ => 0, fun _ => false, fun _ => .none⟩
noncomputable def fi14 : FI := ⟨0, 67, Tryd.f14.body.getD .skip, Tryd.f14.results.toList, an14, false, false, false⟩
theorem ok14 : FnOk Tryd.prog 14 fi14 := ⟨⟨Tryd.f14, Tryd.func14, by kernel_rfl, rfl, rfl, rfl⟩, by decide, by kernel_rfl, fun h => by cases h⟩
structure Known18 (C : Callees) : Prop extends Lib18F C where
  f14 : Has T C 14 fi14
  num : ∀ (n : Nat) (B : Hp), C 23 [errD n] B = some (.int .i64 n, B)
  clo_bad : ∀ (n : Nat) (l : List Pn) (id : Nat), l.length ≤ 1000 → mayP n l = false → C 18 [.agg [.int .u64 (n : Nat), .vec 18 (l.map pnD) .none], .int .u64 (id : Nat)] [] = some (.tuple [.agg [.int .u64 0, .vec 18 [] .fresh], errD 1], [])
  clo_miss : ∀ (n : Nat) (l : List Pn) (id : Nat), mayP n l = true → (∀ i, ¬ isP l id i) → C 18 [.agg [.int .u64 (n : Nat), .vec 18 (l.map pnD) .none], .int .u64 (id : Nat)] [] = some (.tuple [.agg [.int .u64 0, .vec 18 [] .fresh], errD 6], [])
  clo_hit : ∀ (n : Nat) (l : List Pn) (id i : Nat), mayP n l = true → isP l id i → C 18 [.agg [.int .u64 (n : Nat), .vec 18 (l.map pnD) .none], .int .u64 (id : Nat)] [] = some (.tuple [.agg [.int .u64 (n : Nat), .vec 18 ((cutL l i).map pnD) .fresh], .nili], [])

variable {C : Callees}

theorem num6 (hC : Known18 C) (B : Hp) : C 23 [.iface 163 (.int .i64 6)] B = some (.int .i64 6, B) := hC.num 6 B
theorem num7 (hC : Known18 C) (B : Hp) : C 23 [.iface 163 (.int .i64 7)] B = some (.int .i64 7, B) := hC.num 7 B
theorem nlit18 (n : Nat) : (Nat.cast (no_index (OfNat.ofNat n)) : Int) = OfNat.ofNat n := rfl
def pn1 : Pn := ⟨1, 7, beloS (clip 2)⟩

set_option maxRecDepth 20000 in
set_option maxHeartbeats 2000000 in
theorem run14 (hC : Known18 C) : runV T C fi14 [] [] = some (.bool true, []) := by
  rw [e_run _ _ _ rfl]
  have hL := hC.toLib18F
  have c1 := c77 hL.toLib17 2 []
  have hw : Wds (beloS (clip 2)) := belo_w _
  have hwl : WdL [pn1] := fun p hp => by rw [List.mem_singleton] at hp; subst hp; exact hw
  have m1 : mayP 1 [pn1] = true := rfl
  have c2 : C 16 [.agg [.int .u64 0, .vec 18 [] .none], .int .u64 7, .agg (nums .u64 16 (beloS (clip 2)))] [] = some (.tuple [.agg [.int .u64 1, .vec 18 [.agg (.int .u64 1 :: .int .u64 7 :: nums .u64 16 (beloS (clip 2)))] .fresh], .int .u64 1, .nili], []) := hL.f16 _ _ _ (run16_ok hL.toLib18D 0 [] 7 (beloS (clip 2)) rfl [])
  have c3 : C 18 [.agg [.int .u64 1, .vec 18 [.agg (.int .u64 1 :: .int .u64 7 :: nums .u64 16 (beloS (clip 2)))] .none], .int .u64 1] [] = some (.tuple [.agg [.int .u64 1, .vec 18 [] .fresh], .nili], []) := hC.clo_hit 1 [pn1] 1 0 m1 ⟨by decide, rfl⟩
  have c4 : C 26 [.agg [.int .u64 1, .vec 18 [.agg (.int .u64 1 :: .int .u64 7 :: nums .u64 16 (beloS (clip 2)))] .none]] [] = some (.tuple [.int .u64 7, .bool true], []) := by
    obtain ⟨j, h1, _, h3⟩ := run26_yes hL.toLib18E 1 [pn1] m1 (by decide) []
    obtain rfl : j = 0 := by simpa using h1
    exact hL.f26 _ _ _ h3
  have c5 : C 20 [.agg [.int .u64 1, .vec 18 [] .none], .int .u64 1] [] = some (.tuple [pnD pn0, .iface 163 (.int .i64 6)], []) := hL.f20 _ _ _ (run20_miss hL.toLib18B 1 [] rfl (fun i h => by have := h.1; simp at this) [])
  have c6 : C 27 [.agg [.int .u64 1, .vec 18 [.agg (.int .u64 1 :: .int .u64 7 :: nums .u64 16 (beloS (clip 2)))] .none]] [] = some (.agg (nums .u64 16 (heldP 1 [pn1])), []) := hL.f27 _ _ _ (run27 hL.toLib18E 1 [pn1] (by decide) hwl [])
  have q1 := eqS18 (s := heldP 1 [pn1]) (t := beloS (clip 2)) (fun i _ => by
    unfold heldP
    rw [m1, if_pos rfl]
    show (0 : Nat) ||| beloS (clip 2) i = _
    exact Nat.zero_or _)
  have n6 := num6 hC
  unfold pn0 pnD at c5
  simp only [fi14, Tryd.f14, an14, nlit18, c1, c2, c3, c4, c5, c6, q1, n6, AL, T3, T22, T28, T30, T33, T42, T44, EL, e_finWf, e_finWt, e_finMN, e_finMX, retM, meltV, tupV, D.asBox, D.row1, D.freeR, D.freeO, List.replicate_succ, stepD, accs, accP, accW, simpleOp, isAl, isExt, flipD, D.fresh1, D.row, D.plain, D.plain.plainL, St.close, St.close1, St.borrow, retV, resV, resL, outCL, outC, outL, outD, wantedV, opV, An.mid, thawV, St.settle, D.plainU, prune, envOf, get, put, eval, evalT, nz, argsV, capsV, ofV, binV, binV.aggV, unV, intV, eqOp, isConst, natV, optV, loadV, loadC, storeV, setC, St.at_, partV, partTy, indexAddrV, fieldAddrV, sliceV, sliceV.rowSl, sliceV.strSl, bounds, cutP, builtinV, lenV, maxL, maxV, appendV, St.elems, roomy, rowOf, rowS, isStr, esz, tdOf, convV, buildV, fillV, partsV, okParts, fillL, D.whole, D.demoteC, D.demote, demoteL, D.global, D.flat, D.leaf, D.cells, TI.agg, TD.rowish, callOpV, moveL, CC, keepB, St.borrowL, St.borrow, D.isLsl, adoptR, adoptC, adoptCL, adoptL, adopt, List.toArray, Array.toList, Nat.reduceEqDiff, Nat.reduceAdd, Nat.reduceSub, Nat.reduceMul, Nat.reduceLeDiff, Nat.reduceLT, reduceIte, reduceCtorEq, forall_const, imp_self, Int.reduceNeg, Int.reduceLT, Int.reduceLE, Int.reduceGT, Int.reduceGE, Int.reduceAdd, Int.reduceSub, Int.reduceMul, Int.reduceToNat, Int.reduceEq, ne_eq, eq_self]
  done

end Go.Proofs.YtnhelkclkdfndaaDoor.V
