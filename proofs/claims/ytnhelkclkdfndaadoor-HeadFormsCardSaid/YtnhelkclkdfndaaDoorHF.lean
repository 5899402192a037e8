/-
Layer 19: HeadNewest.
-/
import Derived.Test.YtnhelkclkdfndaaDoorHE
namespace Go.Proofs.YtnhelkclkdfndaaDoor.V
open Go Go.RowKit
set_option linter.unusedSimpArgs false
set_option linter.unusedVariables false

/-! warren/warrenlaw19.HeadNewest -/
def an7 : An := ⟨fun _ => .none, fun | 43 => 1 | _ => 0, fun _ => false, fun _ => .none⟩
noncomputable def fi7 : FI := ⟨3, 137, Tryd.f7.body.getD .skip, Tryd.f7.results.toList, an7, false, false, false⟩
theorem ok7 : FnOk Tryd.prog 7 fi7 := ⟨⟨Tryd.f7, Tryd.func7, by kernel_rfl, rfl, rfl, rfl⟩, by decide, by kernel_rfl, fun h => by cases h⟩

variable {C : Callees}

theorem u8_xor {x y : Nat} (hx : x < 256) (hy : y < 256) : bitsV .xor .u8 (x : Int) (y : Int) = ((x ^^^ y : Nat) : Int) := by
  rw [bits_nat rfl _ _ _ (by show x < 2 ^ 8; omega) (by show y < 2 ^ 8; omega)]
theorem shl_bit : ∀ {m : Nat}, m < 8 → shlV .u8 1 (m : Int) = ((2 ^ m : Nat) : Int)
  | 0, _ => rfl
  | 1, _ => rfl
  | 2, _ => rfl
  | 3, _ => rfl
  | 4, _ => rfl
  | 5, _ => rfl
  | 6, _ => rfl
  | 7, _ => rfl
theorem setB_one (l : List UInt8) (i : Nat) (d : UInt8) (h : i < l.length) : setC (l.map byteD) i [.int .u8 d.toNat] = (l.set i d).map byteD := by
  rw [setC_one (by rw [List.length_map]; exact h), List.map_set]; rfl

theorem hd_ne (x y : Hd) : eqT T 6 71 [.int .u64 x.a, .int .u64 x.b, .int .u64 x.c, .int .i64 x.r, .int .i64 x.e] [.int .u64 y.a, .int .u64 y.b, .int .u64 y.c, .int .i64 y.r, .int .i64 y.e] = some (decide (x = y)) := eqT_hd x y

/-- The one ahead. -/
def wasH (h : Hd) (p q : Nat) : Hd := ⟨h.a - 1, p, q, 0, 0⟩

theorem sC_nil (l : List D) : setC l 0 [] = l := by simp [setC]
theorem sC_zero (a : D) (l : List D) (x : D) (xs : List D) : setC (a :: l) 0 (x :: xs) = x :: setC l 0 xs := by simp [setC]
theorem sC_succ (a : D) (l : List D) (n : Nat) (xs : List D) : setC (a :: l) (n + 1) xs = a :: setC l n xs := by simp [setC, Nat.add_right_comm]

set_option maxRecDepth 20000 in
set_option maxHeartbeats 8000000 in
theorem run7 (hC : Known19 C) (h : Hd) (hn : h.a < 18446744073709551616) (p q : Nat) (hp : p < 65536) (hq : q < 65536) (bit : Int) : runV T C fi7 [h.D, .agg [.int .u16 p, .int .u16 q], .int .i64 bit] [] = some (.bool true, []) := by
  rw [e_run _ _ _ rfl]
  have hL := hC.toLib19
  have c0 := c31 hC
  have eD : h.D = .agg [.int .u64 h.a, .int .u64 h.b, .int .u64 h.c, .int .i64 h.r, .int .i64 h.e] := rfl
  have c1 := c39 hL h
  unfold mayE at c1
  rw [eD] at c1 ⊢
  cases hm : h.may with
  | false =>
    rw [hm, if_neg (by decide), errD_pos (by decide)] at c1
    simp only [fi7, Tryd.f7, an7, c0, c1, T3, T5, T22, T33, T67, T68, T71, T84, T85, T86, T87, EL, e_finWf, e_finWt, e_finMN, e_finMX, retM, meltV, tupV, D.asBox, D.row1, D.freeR, D.freeO, List.replicate_succ, stepD, accs, accP, accW, simpleOp, isAl, isExt, flipD, D.fresh1, D.row, D.plain, D.plain.plainL, St.close, St.close1, St.borrow, retV, resV, resL, outCL, outC, outL, outD, wantedV, opV, An.mid, thawV, St.settle, D.plainU, prune, envOf, get, put, eval, evalT, nz, argsV, capsV, ofV, binV, binV.aggV, unV, intV, eqOp, isConst, natV, optV, loadV, loadC, storeV, setC, St.at_, partV, partTy, indexAddrV, fieldAddrV, sliceV, sliceV.rowSl, sliceV.strSl, bounds, cutP, builtinV, lenV, maxL, maxV, appendV, St.elems, roomy, rowOf, rowS, isStr, esz, tdOf, convV, buildV, fillV, partsV, okParts, fillL, D.whole, D.demoteC, D.demote, demoteL, D.global, D.flat, D.leaf, D.cells, TI.agg, TD.rowish, callOpV, moveL, CC, keepB, St.borrowL, St.borrow, D.isLsl, adoptR, adoptC, adoptCL, adoptL, adopt, List.toArray, Array.toList, Nat.reduceEqDiff, Nat.reduceAdd, Nat.reduceSub, Nat.reduceMul, Nat.reduceLeDiff, Nat.reduceLT, reduceIte, reduceCtorEq, forall_const, imp_self, Int.reduceNeg, Int.reduceLT, Int.reduceLE, Int.reduceGT, Int.reduceGE, Int.reduceAdd, Int.reduceSub, Int.reduceMul, Int.reduceToNat, Int.reduceEq, ne_eq, eq_self]
  | true =>
    rw [hm, if_pos rfl, errD_zero] at c1
    by_cases ha : (h.a : Int) = 0
    · rw [ha] at c1
      simp only [fi7, Tryd.f7, an7, c0, c1, ha, T3, T5, T22, T33, T67, T68, T71, T84, T85, T86, T87, EL, e_finWf, e_finWt, e_finMN, e_finMX, retM, meltV, tupV, D.asBox, D.row1, D.freeR, D.freeO, List.replicate_succ, stepD, accs, accP, accW, simpleOp, isAl, isExt, flipD, D.fresh1, D.row, D.plain, D.plain.plainL, St.close, St.close1, St.borrow, retV, resV, resL, outCL, outC, outL, outD, wantedV, opV, An.mid, thawV, St.settle, D.plainU, prune, envOf, get, put, eval, evalT, nz, argsV, capsV, ofV, binV, binV.aggV, unV, intV, eqOp, isConst, natV, optV, loadV, loadC, storeV, setC, St.at_, partV, partTy, indexAddrV, fieldAddrV, sliceV, sliceV.rowSl, sliceV.strSl, bounds, cutP, builtinV, lenV, maxL, maxV, appendV, St.elems, roomy, rowOf, rowS, isStr, esz, tdOf, convV, buildV, fillV, partsV, okParts, fillL, D.whole, D.demoteC, D.demote, demoteL, D.global, D.flat, D.leaf, D.cells, TI.agg, TD.rowish, callOpV, moveL, CC, keepB, St.borrowL, St.borrow, D.isLsl, adoptR, adoptC, adoptCL, adoptL, adopt, List.toArray, Array.toList, Nat.reduceEqDiff, Nat.reduceAdd, Nat.reduceSub, Nat.reduceMul, Nat.reduceLeDiff, Nat.reduceLT, reduceIte, reduceCtorEq, forall_const, imp_self, Int.reduceNeg, Int.reduceLT, Int.reduceLE, Int.reduceGT, Int.reduceGE, Int.reduceAdd, Int.reduceSub, Int.reduceMul, Int.reduceToNat, Int.reduceEq, ne_eq, eq_self]
    obtain ⟨m1, m2, m3, _, _, _, _⟩ := may_parts hm
    unfold big at m1 m2 m3
    have ym : (wasH h p q).may = true := may_yes (by omega)
    have w0 : IntKind.u64.wrap ((h.a : Int) - 1) = ((h.a - 1 : Nat) : Int) := by rw [wrap_u64 (by omega) (by omega)]; omega
    have w1 : IntKind.u64.wrap (p : Int) = p := wrap_u64 (by omega) (by omega)
    have w2 : IntKind.u64.wrap (q : Int) = q := wrap_u64 (by omega) (by omega)
    have c2 := en_ok hL h hm
    rw [eD] at c2
    have c3 : C 32 [.agg [.int .u64 (h.a - 1 : Nat), .int .u64 p, .int .u64 q, .int .i64 0, .int .i64 0]] [] = some (.tuple [.vec 1 ((encH (wasH h p q)).map byteD) .box, .nili], []) := en_ok hL (wasH h p q) ym
    have hlen := encH_len hm
    have l1 : ((encH h).map byteD).length = 512 := by rw [List.length_map, hlen]
    have t1 : (encH h).take 512 = encH h := List.take_of_length_le (by omega)
    have ne1 : ((encH h).map byteD).isEmpty = false := by
      cases hp : encH h with
      | nil => rw [hp] at hlen; cases hlen
      | cons _ _ => rfl
    have hlen2 := encH_len ym
    have c4 : C 34 [.vec 1 ((encH h).map byteD) .none] [] = some (.tuple [.agg [.int .u64 h.a, .int .u64 h.b, .int .u64 h.c, .int .i64 h.r, .int .i64 h.e], .nili], []) := by
      have := c34 hL (encH h)
      rw [(dec_enc hm).1, (dec_enc hm).2, errD_zero] at this
      exact this
    have c5 := c41 hL h.a hn
    have c6 := c41 hL (h.a - 1) (by omega)
    -- the bit
    obtain ⟨N, hN, wN⟩ : ∃ N : Nat, N < 4096 ∧ (IntKind.u64.wrap bit).tmod 4096 = (N : Int) := by
      have h0 : 0 ≤ IntKind.u64.wrap bit := by rw [wrap_u64_mod]; omega
      refine ⟨((IntKind.u64.wrap bit).tmod 4096).toNat, ?_, ?_⟩
      · rw [Int.tmod_eq_emod_of_nonneg h0]; omega
      · rw [Int.tmod_eq_emod_of_nonneg h0]; omega
    have x2 : IntKind.u64.wrap (N : Int) = (N : Int) := wrap_u64 (by omega) (by omega)
    have x3 : IntKind.i64.wrap (N : Int) = (N : Int) := wrapI (by omega) (by omega)
    have t2 : (N : Int).tdiv 8 = ((N / 8 : Nat) : Int) := by rw [Int.tdiv_eq_ediv_of_nonneg (by omega)]; omega
    have t3 : (N : Int).tmod 8 = ((N % 8 : Nat) : Int) := by rw [Int.tmod_eq_emod_of_nonneg (by omega)]; omega
    have x4 : IntKind.i64.wrap ((N / 8 : Nat) : Int) = ((N / 8 : Nat) : Int) := wrapI (by omega) (by omega)
    have x5 : IntKind.i64.wrap ((N % 8 : Nat) : Int) = ((N % 8 : Nat) : Int) := wrapI (by omega) (by omega)
    have x6 : IntKind.u64.wrap ((N % 8 : Nat) : Int) = ((N % 8 : Nat) : Int) := wrap_u64 (by omega) (by omega)
    have hm8 : N % 8 < 8 := Nat.mod_lt _ (by decide)
    have hi : N / 8 < 512 := by omega
    have ng : ¬ ((N % 8 : Nat) : Int) < 0 := by omega
    have hi2 : N / 8 ≤ 511 := by omega
    have n1 := nat0 (N / 8)
    have n2 := nat0 (N % 8)
    have s1 := shl_bit hm8
    have g1 := bO_get (l := encH h) (i := N / 8) (by omega)
    have hget : (encH h)[N / 8]? = some (bO (encH h) (N / 8)) := by
      unfold bO
      rw [List.getD_eq_getElem?_getD, List.getElem?_eq_getElem (by omega)]; rfl
    generalize bO (encH h) (N / 8) = x at g1 hget
    have hp2 : 2 ^ (N % 8) < 256 := Nat.pow_lt_pow_right (by decide) hm8
    have s2 : bitsV .xor .u8 (x.toNat : Int) ((2 ^ (N % 8) : Nat) : Int) = ((tbit x (N % 8)).toNat : Int) := by rw [u8_xor x.toNat_lt hp2, tbit_nat hm8]
    have hls : ((encH h).set (N / 8) (tbit x (N % 8))).length = 512 := by rw [List.length_set, hlen]
    have e2 : ((encH h).set (N / 8) (tbit x (N % 8))).take 512 = (encH h).set (N / 8) (tbit x (N % 8)) := List.take_of_length_le (by omega)
    have s3 := setB_one (encH h) (N / 8) (tbit x (N % 8)) (by omega)
    have dt := dec_turned hm hget (tbit_ne hm8 x)
    generalize (encH h).set (N / 8) (tbit x (N % 8)) = y at hls e2 s3 dt
    have dn : decE y ≠ 0 := by rw [dt]; decide
    have sa := hd_same h
    have sb := hd_same (wasH h p q)
    have yD : (wasH h p q).D = .agg [.int .u64 (h.a - 1 : Nat), .int .u64 p, .int .u64 q, .int .i64 0, .int .i64 0] := rfl
    have sb : eqT T 6 71 [.int .u64 (h.a - 1 : Nat), .int .u64 p, .int .u64 q, .int .i64 0, .int .i64 0] [.int .u64 (h.a - 1 : Nat), .int .u64 p, .int .u64 q, .int .i64 0, .int .i64 0] = some true := hd_same (wasH h p q)
    rcases Nat.mod_two_eq_zero_or_one h.a with hpar | hpar
    · have hpar2 : (h.a - 1) % 2 = 1 := by omega
      rw [hpar, pz0] at c5
      rw [hpar2] at c6
      have oa : okP (encH h) 0 = true := by rw [okP_enc hm, hpar]; rfl
      have ob : okP (encH (wasH h p q)) 1 = true := by rw [okP_enc ym]; show decide ((h.a - 1) % 2 = 1) = true; rw [hpar2]; rfl
      have c7 : C 36 [.vec 1 ((encH h).map byteD) .none, .vec 1 ((encH (wasH h p q)).map byteD) .none] [] = some (.tuple [.agg [.int .u64 h.a, .int .u64 h.b, .int .u64 h.c, .int .i64 h.r, .int .i64 h.e], .nili], []) := by
        have := c36 hL (encH h) (encH (wasH h p q))
        unfold pickH pickE at this
        rw [oa, ob, (dec_enc hm).2, (dec_enc ym).2, if_pos rfl, if_pos rfl, if_pos (by show h.a - 1 < h.a; omega), if_pos (.inl rfl), errD_zero] at this
        exact this
      have c8 : C 36 [.vec 1 (y.map byteD) .none, .vec 1 ((encH (wasH h p q)).map byteD) .none] [] = some (.tuple [.agg [.int .u64 (h.a - 1 : Nat), .int .u64 p, .int .u64 q, .int .i64 0, .int .i64 0], .nili], []) := by
        have := c36 hL y (encH (wasH h p q))
        unfold pickH pickE at this
        rw [okP_len dn, ob, (dec_enc ym).2, if_neg (by decide), if_pos rfl, if_pos (.inr rfl), errD_zero] at this
        exact this
      simp only [fi7, Tryd.f7, an7, nlit, c0, c1, ha, w0, w1, w2, c2, c3, hlen, l1, t1, ne1, hlen2, c4, c5, c6, c7, c8, wN, x2, x3, t2, t3, x4, x5, x6, ng, hi, hi2, Nat.mul_one, n1, n2, s1, s2, g1, hls, e2, s3, sa, sb, sC_nil, sC_zero, sC_succ, glob_bytes, leaf_bytes, plain_bytes, Int.toNat_natCast, T3, T5, T22, T33, T67, T68, T71, T84, T85, T86, T87, EL, e_finWf, e_finWt, e_finMN, e_finMX, retM, meltV, tupV, D.asBox, D.row1, D.freeR, D.freeO, List.replicate_succ, stepD, accs, accP, accW, simpleOp, isAl, isExt, flipD, D.fresh1, D.row, D.plain, D.plain.plainL, St.close, St.close1, St.borrow, retV, resV, resL, outCL, outC, outL, outD, wantedV, opV, An.mid, thawV, St.settle, D.plainU, prune, envOf, get, put, eval, evalT, nz, argsV, capsV, ofV, binV, binV.aggV, unV, intV, eqOp, isConst, natV, optV, loadV, loadC, storeV, St.at_, partV, partTy, indexAddrV, fieldAddrV, sliceV, sliceV.rowSl, sliceV.strSl, bounds, cutP, builtinV, lenV, maxL, maxV, appendV, St.elems, roomy, rowOf, rowS, isStr, esz, tdOf, convV, buildV, fillV, partsV, okParts, fillL, D.whole, D.demoteC, D.demote, demoteL, D.global, D.flat, D.leaf, D.cells, TI.agg, TD.rowish, callOpV, moveL, CC, keepB, St.borrowL, St.borrow, D.isLsl, adoptR, adoptC, adoptCL, adoptL, adopt, List.toArray, Array.toList, Nat.reduceEqDiff, Nat.reduceAdd, Nat.reduceSub, Nat.reduceMul, Nat.reduceLeDiff, Nat.reduceLT, reduceIte, reduceCtorEq, forall_const, imp_self, Int.reduceNeg, Int.reduceLT, Int.reduceLE, Int.reduceGT, Int.reduceGE, Int.reduceAdd, Int.reduceSub, Int.reduceMul, Int.reduceToNat, Int.reduceEq, ne_eq, eq_self]
      done
    · have hpar2 : (h.a - 1) % 2 = 0 := by omega
      rw [hpar] at c5
      rw [hpar2, pz0] at c6
      have oa : okP (encH h) 1 = true := by rw [okP_enc hm, hpar]; rfl
      have ob : okP (encH (wasH h p q)) 0 = true := by rw [okP_enc ym]; show decide ((h.a - 1) % 2 = 0) = true; rw [hpar2]; rfl
      have c7 : C 36 [.vec 1 ((encH (wasH h p q)).map byteD) .none, .vec 1 ((encH h).map byteD) .none] [] = some (.tuple [.agg [.int .u64 h.a, .int .u64 h.b, .int .u64 h.c, .int .i64 h.r, .int .i64 h.e], .nili], []) := by
        have := c36 hL (encH (wasH h p q)) (encH h)
        unfold pickH pickE at this
        rw [oa, ob, (dec_enc hm).2, (dec_enc ym).2, if_pos rfl, if_pos rfl, if_neg (by show ¬ h.a < h.a - 1; omega), if_pos (.inl rfl), errD_zero] at this
        exact this
      have c8 : C 36 [.vec 1 ((encH (wasH h p q)).map byteD) .none, .vec 1 (y.map byteD) .none] [] = some (.tuple [.agg [.int .u64 (h.a - 1 : Nat), .int .u64 p, .int .u64 q, .int .i64 0, .int .i64 0], .nili], []) := by
        have := c36 hL (encH (wasH h p q)) y
        unfold pickH pickE at this
        rw [okP_len dn, ob, (dec_enc ym).2, if_pos rfl, if_neg (by decide), if_pos (.inl rfl), errD_zero] at this
        exact this
      simp only [fi7, Tryd.f7, an7, nlit, c0, c1, ha, w0, w1, w2, c2, c3, hlen, l1, t1, ne1, hlen2, c4, c5, c6, c7, c8, wN, x2, x3, t2, t3, x4, x5, x6, ng, hi, hi2, Nat.mul_one, n1, n2, s1, s2, g1, hls, e2, s3, sa, sb, sC_nil, sC_zero, sC_succ, glob_bytes, leaf_bytes, plain_bytes, Int.toNat_natCast, T3, T5, T22, T33, T67, T68, T71, T84, T85, T86, T87, EL, e_finWf, e_finWt, e_finMN, e_finMX, retM, meltV, tupV, D.asBox, D.row1, D.freeR, D.freeO, List.replicate_succ, stepD, accs, accP, accW, simpleOp, isAl, isExt, flipD, D.fresh1, D.row, D.plain, D.plain.plainL, St.close, St.close1, St.borrow, retV, resV, resL, outCL, outC, outL, outD, wantedV, opV, An.mid, thawV, St.settle, D.plainU, prune, envOf, get, put, eval, evalT, nz, argsV, capsV, ofV, binV, binV.aggV, unV, intV, eqOp, isConst, natV, optV, loadV, loadC, storeV, St.at_, partV, partTy, indexAddrV, fieldAddrV, sliceV, sliceV.rowSl, sliceV.strSl, bounds, cutP, builtinV, lenV, maxL, maxV, appendV, St.elems, roomy, rowOf, rowS, isStr, esz, tdOf, convV, buildV, fillV, partsV, okParts, fillL, D.whole, D.demoteC, D.demote, demoteL, D.global, D.flat, D.leaf, D.cells, TI.agg, TD.rowish, callOpV, moveL, CC, keepB, St.borrowL, St.borrow, D.isLsl, adoptR, adoptC, adoptCL, adoptL, adopt, List.toArray, Array.toList, Nat.reduceEqDiff, Nat.reduceAdd, Nat.reduceSub, Nat.reduceMul, Nat.reduceLeDiff, Nat.reduceLT, reduceIte, reduceCtorEq, forall_const, imp_self, Int.reduceNeg, Int.reduceLT, Int.reduceLE, Int.reduceGT, Int.reduceGE, Int.reduceAdd, Int.reduceSub, Int.reduceMul, Int.reduceToNat, Int.reduceEq, ne_eq, eq_self]
      done

end Go.Proofs.YtnhelkclkdfndaaDoor.V
