/-
Layer 1: IntsBytes, IntsJoins.
-/
import Derived.Test.YtploddijjofphaaDoorLE
namespace Go.Proofs.YtploddijjofphaaDoor.V
open Go Go.RowKit
set_option linter.unusedSimpArgs false
set_option linter.unusedVariables false

/-! warren/warrenlaw01.IntsBytes -/
def an11 : An := ⟨fun _ => .none, fun _ => 0, fun _ => false, fun _ => .none⟩
noncomputable def fi11 : FI := ⟨3, 82, Tryd.f11.body.getD .skip, Tryd.f11.results.toList, an11, false, false⟩
theorem ok11 : FnOk Tryd.prog 11 fi11 := ⟨⟨Tryd.f11, Tryd.func11, by kernel_rfl, rfl, rfl, rfl⟩, by decide, by kernel_rfl, fun h => by cases h⟩
/-! warren/warrenlaw01.IntsJoins -/
def an12 : An := ⟨fun _ => .none, fun _ => 0, fun _ => false, fun _ => .none⟩
noncomputable def fi12 : FI := ⟨3, 107, Tryd.f12.body.getD .skip, Tryd.f12.results.toList, an12, false, false⟩
theorem ok12 : FnOk Tryd.prog 12 fi12 := ⟨⟨Tryd.f12, Tryd.func12, by kernel_rfl, rfl, rfl, rfl⟩, by decide, by kernel_rfl, fun h => by cases h⟩
variable {C : Callees}

theorem beN_bes (v : Nat) : ∀ (n a : Nat), beN a (bes v n) = a * 256 ^ n + v % 256 ^ n
  | 0, a => by simp [bes, beN, Nat.mod_one]
  | n + 1, a => by
    have ih := beN_bes v n (a * 256 + (byteAt v n).toNat)
    have h1 : beN a (bes v (n + 1)) = beN (a * 256 + (byteAt v n).toNat) (bes v n) := rfl
    have h2 : (byteAt v n).toNat = v / 256 ^ n % 256 := by unfold byteAt; rw [UInt8.toNat_ofNat']
    have h3 : v % 256 ^ (n + 1) = v / 256 ^ n % 256 * 256 ^ n + v % 256 ^ n := by
      rw [Nat.pow_succ, Nat.mod_mul, Nat.mul_comm (256 ^ n)]; omega
    rw [h1, ih, h2, h3, Nat.add_mul, Nat.mul_assoc, Nat.pow_succ, Nat.mul_comm 256, Nat.add_assoc]

theorem bytes_back {v k : Nat} (h1 : 1 ≤ k) (h2 : k ≤ 8) : getS (putS [] v k) = (v % 256 ^ k, 0) := by
  have e0 : ¬ ((k : Int) < 1 ∨ (k : Int) > 64) := by omega
  unfold putS
  rw [if_neg e0, Int.toNat_natCast, List.nil_append]
  unfold getS
  rw [bes_length, if_neg (by omega), beN_bes, Nat.zero_mul, Nat.zero_add]

theorem str_ne (a : List UInt8) : strV .neq a a = some (.bool false) := by simp [strV]

theorem put_len {l : List UInt8} {v : Nat} {n : Int} : (putS l v n).length ≤ l.length + 64 := by
  unfold putS
  split
  · omega
  · rw [List.length_append, bes_length]; omega

set_option maxRecDepth 10000 in
set_option maxHeartbeats 8000000 in
theorem run11 (hC : Lib01 C) (l : List UInt8) (v : Nat) (n : Int) (hv : v < 18446744073709551616) (hl : l.length ≤ 140737488351232) (B : Hp) :
    runV T C fi11 [.vec 1 (l.map byteD) .none, .int .u64 v, .int .i64 n] B = some (.bool true, B) := by
  rw [e_run _ _ _ rfl]
  have e4 := c41 hC
  by_cases h3 : (l.length : Int) > 300
  · simp only [fi11, Tryd.f11, an11, h3, e4, errD_dem, errD_demC, errD_bor, errD_out, errD_outC, errD_ado, errD_adoC, errD_adoR, errD_plain, errD_close, errD_lsl, errD_fresh, implies_true, false_implies, D.vec.injEq, adopt.eq_1, adopt.eq_2, adoptC.eq_1, adoptC.eq_2, adoptR.eq_1, adoptR.eq_2, outD.eq_1, outD.eq_2, outD.eq_3, outC.eq_1, outC.eq_2, D.demote.eq_1, D.demote.eq_2, D.demoteC.eq_1, D.demoteC.eq_2, St.borrow.eq_1, St.borrow.eq_2, D.isLsl.eq_1, D.isLsl.eq_2, D.fresh1.eq_1, D.fresh1.eq_2, St.close.eq_1, St.close.eq_2, T3, T5, T9, T30, T49, T62, T64, e_seq, e_region, e_dyn, e_dynS, stepD, accs, accP, accW, simpleOp, isAl, isExt, flipD, D.row, D.plain, D.plain.plainL, St.close1, List.flatten_cons, List.flatten_nil, e_block, e_cond, e_ret, e_skip, e_exit, e_plain, e_guard, e_nil, e_op, e_ifT, e_ifF, e_true, e_false, e_loop, e_l, e_top, e_seqN, e_seqE, e_seqR, e_blockN, e_blockR, e_blockE,
    begin_f, begin_t, end_f, e_finN, e_finX, e_finR, retV, resV, resL, outCL, outL, wantedV, opV, An.mid, thawV, D.plainU, prune, List.map_cons, List.map_nil, envOf, get, put, eval, evalT, nz, argsV, capsV, ofV, nbeq, nble, binV, binV.aggV, unV, intV, eqOp, isConst, natV, optV, loadV, loadC, storeV, setC, St.at_, partV, partTy, indexAddrV, fieldAddrV, sliceV, sliceV.rowSl, sliceV.strSl, bounds, cutP,
    builtinV, lenV, maxL, maxV, appendV, St.elems, roomy, rowOf, rowS, isStr, esz, tdOf, convV, buildV, fillV, partsV, okParts, fillL, D.whole, demoteL, D.global, D.flat, D.leaf, D.cells, TI.agg, TD.rowish, callOpV, moveL, CC, keepB, St.borrowL, adoptCL, adoptL, 
    List.toArray, Array.toList, List.length_cons, List.length_nil, List.length_map, List.length_append, List.length_replicate, List.replicate_succ, List.replicate_zero, List.replicate_one, ← List.map_take, ← List.map_drop, List.isEmpty_cons, List.isEmpty_nil, List.drop_zero, List.take_succ_cons, List.take_zero, List.take_nil, List.drop_succ_cons, List.drop_nil, Nat.zero_le, Nat.le_refl, Nat.sub_zero, List.getElem?_cons_succ, List.getElem?_cons_zero, List.getElem?_nil, List.any_cons, List.any_nil, List.all_cons, List.all_nil, List.append_nil, List.nil_append, List.cons_append, List.set_cons_zero, List.set_cons_succ,
    cond_true, cond_false, decide_true, decide_false, Bool.true_and, Bool.and_true, Bool.false_and, Bool.and_false, Bool.true_or, Bool.or_true, Bool.false_or, Bool.or_false, Bool.not_true, Bool.not_false, Bool.and_self, Bool.or_self, bT, bF, ieq, ine, decide_eq_true_eq, decide_not,
    Nat.reduceEqDiff, Nat.reduceAdd, Nat.reduceSub, Nat.reduceMul, Nat.reduceLeDiff, Nat.reduceLT, Nat.zero_add, Nat.add_zero, Option.getD_some, Option.getD_none, Option.isSome_some, Option.isSome_none, reduceIte, reduceCtorEq, and_self, and_true, true_and, not_true_eq_false, not_false_eq_true, false_imp_iff, forall_const, imp_self,
    Int.reduceNeg, Int.reduceLT, Int.reduceLE, Int.reduceGT, Int.reduceGE, Int.reduceAdd, Int.reduceSub, Int.reduceMul, Int.reduceToNat, Int.reduceEq, ne_eq, eq_self, beq_self_eq_true]
  have hl3 : l.length ≤ 300 := by omega
  have g1 := c52 hC l
  have g2 := c53 hC l (by omega)
  have g3 := c54 hC l v n hv (by omega)
  have g4 := c55 hC l v n hv (by omega)
  have g5 := hC.num
  have b1 := bytesOf_map (putS l v n)
  obtain ⟨m, hm, hm2⟩ : ∃ m : Nat, IntKind.u64.wrap n = (m : Int) ∧ m < 18446744073709551616 := ⟨(n % 18446744073709551616).toNat, by rw [wrap_u64_mod]; omega, by omega⟩
  have b2 : (m : Int).tmod 8 = ((m % 8 : Nat) : Int) := tmodN m 8
  have b3 : IntKind.i64.wrap ((m % 8 : Nat) : Int) = ((m % 8 : Nat) : Int) := wrapI (by omega) (by omega)
  have b4 : IntKind.i64.wrap (1 + ((m % 8 : Nat) : Int)) = ((m % 8 + 1 : Nat) : Int) := by rw [wrapI (by omega) (by omega)]; omega
  have hk1 : 1 ≤ m % 8 + 1 := by omega
  have hk2 : m % 8 + 1 ≤ 8 := by omega
  generalize m % 8 + 1 = k at b4 hk1 hk2
  have p1 : ∀ B, C 54 [.vec 1 [] .none, .int .u64 (v : Int), .int .i64 (k : Int)] B = some (.vec 1 ((putS [] v k).map byteD) .fresh, B) := c54 hC [] v k hv (by simp)
  have p2 := c52 hC (putS [] v k)
  have p3 := bytes_back (v := v) hk1 hk2
  rw [p3] at p2
  simp only [errD_zero] at p2
  by_cases h8 : (k : Int) < 8
  · have q1 : IntKind.i64.wrap (8 * (k : Int)) = ((8 * k : Nat) : Int) := by rw [wrapI (by omega) (by omega)]; omega
    have q2 : IntKind.u64.wrap ((8 * k : Nat) : Int) = ((8 * k : Nat) : Int) := wrap_u64 (by omega) (by omega)
    have q3 := shl_one (b := 8 * k) (by omega)
    have q4 : ¬ ((8 * k : Nat) : Int) < 0 := by omega
    have q5 := tmodN v (2 ^ (8 * k))
    have q6 : ¬ ((2 ^ (8 * k) : Nat) : Int) = 0 := by have := Nat.pow_pos (n := 8 * k) (show 0 < 2 by decide); omega
    have q7 : v % 2 ^ (8 * k) = v % 256 ^ k := by rw [Nat.pow_mul]
    rw [q7] at q5
    simp only [fi11, Tryd.f11, an11, str_ne, h3, e4, g1, g2, g3, g4, g5, b1, hm, b2, b3, b4, p1, p2, h8, q1, q2, q3, q4, q5, q6, errD_dem, errD_demC, errD_bor, errD_out, errD_outC, errD_ado, errD_adoC, errD_adoR, errD_plain, errD_close, errD_lsl, errD_fresh, implies_true, false_implies, D.vec.injEq, adopt.eq_1, adopt.eq_2, adoptC.eq_1, adoptC.eq_2, adoptR.eq_1, adoptR.eq_2, outD.eq_1, outD.eq_2, outD.eq_3, outC.eq_1, outC.eq_2, D.demote.eq_1, D.demote.eq_2, D.demoteC.eq_1, D.demoteC.eq_2, St.borrow.eq_1, St.borrow.eq_2, D.isLsl.eq_1, D.isLsl.eq_2, D.fresh1.eq_1, D.fresh1.eq_2, St.close.eq_1, St.close.eq_2, T3, T5, T9, T30, T49, T62, T64, e_seq, e_region, e_dyn, e_dynS, stepD, accs, accP, accW, simpleOp, isAl, isExt, flipD, D.row, D.plain, D.plain.plainL, St.close1, List.flatten_cons, List.flatten_nil, e_block, e_cond, e_ret, e_skip, e_exit, e_plain, e_guard, e_nil, e_op, e_ifT, e_ifF, e_true, e_false, e_loop, e_l, e_top, e_seqN, e_seqE, e_seqR, e_blockN, e_blockR, e_blockE,
    begin_f, begin_t, end_f, e_finN, e_finX, e_finR, retV, resV, resL, outCL, outL, wantedV, opV, An.mid, thawV, D.plainU, prune, List.map_cons, List.map_nil, envOf, get, put, eval, evalT, nz, argsV, capsV, ofV, nbeq, nble, binV, binV.aggV, unV, intV, eqOp, isConst, natV, optV, loadV, loadC, storeV, setC, St.at_, partV, partTy, indexAddrV, fieldAddrV, sliceV, sliceV.rowSl, sliceV.strSl, bounds, cutP,
    builtinV, lenV, maxL, maxV, appendV, St.elems, roomy, rowOf, rowS, isStr, esz, tdOf, convV, buildV, fillV, partsV, okParts, fillL, D.whole, demoteL, D.global, D.flat, D.leaf, D.cells, TI.agg, TD.rowish, callOpV, moveL, CC, keepB, St.borrowL, adoptCL, adoptL, 
    List.toArray, Array.toList, List.length_cons, List.length_nil, List.length_map, List.length_append, List.length_replicate, List.replicate_succ, List.replicate_zero, List.replicate_one, ← List.map_take, ← List.map_drop, List.isEmpty_cons, List.isEmpty_nil, List.drop_zero, List.take_succ_cons, List.take_zero, List.take_nil, List.drop_succ_cons, List.drop_nil, Nat.zero_le, Nat.le_refl, Nat.sub_zero, List.getElem?_cons_succ, List.getElem?_cons_zero, List.getElem?_nil, List.any_cons, List.any_nil, List.all_cons, List.all_nil, List.append_nil, List.nil_append, List.cons_append, List.set_cons_zero, List.set_cons_succ,
    cond_true, cond_false, decide_true, decide_false, Bool.true_and, Bool.and_true, Bool.false_and, Bool.and_false, Bool.true_or, Bool.or_true, Bool.false_or, Bool.or_false, Bool.not_true, Bool.not_false, Bool.and_self, Bool.or_self, bT, bF, ieq, ine, decide_eq_true_eq, decide_not,
    Nat.reduceEqDiff, Nat.reduceAdd, Nat.reduceSub, Nat.reduceMul, Nat.reduceLeDiff, Nat.reduceLT, Nat.zero_add, Nat.add_zero, Option.getD_some, Option.getD_none, Option.isSome_some, Option.isSome_none, reduceIte, reduceCtorEq, and_self, and_true, true_and, not_true_eq_false, not_false_eq_true, false_imp_iff, forall_const, imp_self,
    Int.reduceNeg, Int.reduceLT, Int.reduceLE, Int.reduceGT, Int.reduceGE, Int.reduceAdd, Int.reduceSub, Int.reduceMul, Int.reduceToNat, Int.reduceEq, ne_eq, eq_self, beq_self_eq_true]
  · obtain rfl : k = 8 := by omega
    have q1 : v % 256 ^ 8 = v := Nat.mod_eq_of_lt hv
    rw [q1] at p2
    simp only [fi11, Tryd.f11, an11, str_ne, h3, e4, g1, g2, g3, g4, g5, b1, hm, b2, b3, b4, p1, p2, h8, errD_dem, errD_demC, errD_bor, errD_out, errD_outC, errD_ado, errD_adoC, errD_adoR, errD_plain, errD_close, errD_lsl, errD_fresh, implies_true, false_implies, D.vec.injEq, adopt.eq_1, adopt.eq_2, adoptC.eq_1, adoptC.eq_2, adoptR.eq_1, adoptR.eq_2, outD.eq_1, outD.eq_2, outD.eq_3, outC.eq_1, outC.eq_2, D.demote.eq_1, D.demote.eq_2, D.demoteC.eq_1, D.demoteC.eq_2, St.borrow.eq_1, St.borrow.eq_2, D.isLsl.eq_1, D.isLsl.eq_2, D.fresh1.eq_1, D.fresh1.eq_2, St.close.eq_1, St.close.eq_2, T3, T5, T9, T30, T49, T62, T64, e_seq, e_region, e_dyn, e_dynS, stepD, accs, accP, accW, simpleOp, isAl, isExt, flipD, D.row, D.plain, D.plain.plainL, St.close1, List.flatten_cons, List.flatten_nil, e_block, e_cond, e_ret, e_skip, e_exit, e_plain, e_guard, e_nil, e_op, e_ifT, e_ifF, e_true, e_false, e_loop, e_l, e_top, e_seqN, e_seqE, e_seqR, e_blockN, e_blockR, e_blockE,
    begin_f, begin_t, end_f, e_finN, e_finX, e_finR, retV, resV, resL, outCL, outL, wantedV, opV, An.mid, thawV, D.plainU, prune, List.map_cons, List.map_nil, envOf, get, put, eval, evalT, nz, argsV, capsV, ofV, nbeq, nble, binV, binV.aggV, unV, intV, eqOp, isConst, natV, optV, loadV, loadC, storeV, setC, St.at_, partV, partTy, indexAddrV, fieldAddrV, sliceV, sliceV.rowSl, sliceV.strSl, bounds, cutP,
    builtinV, lenV, maxL, maxV, appendV, St.elems, roomy, rowOf, rowS, isStr, esz, tdOf, convV, buildV, fillV, partsV, okParts, fillL, D.whole, demoteL, D.global, D.flat, D.leaf, D.cells, TI.agg, TD.rowish, callOpV, moveL, CC, keepB, St.borrowL, adoptCL, adoptL, 
    List.toArray, Array.toList, List.length_cons, List.length_nil, List.length_map, List.length_append, List.length_replicate, List.replicate_succ, List.replicate_zero, List.replicate_one, ← List.map_take, ← List.map_drop, List.isEmpty_cons, List.isEmpty_nil, List.drop_zero, List.take_succ_cons, List.take_zero, List.take_nil, List.drop_succ_cons, List.drop_nil, Nat.zero_le, Nat.le_refl, Nat.sub_zero, List.getElem?_cons_succ, List.getElem?_cons_zero, List.getElem?_nil, List.any_cons, List.any_nil, List.all_cons, List.all_nil, List.append_nil, List.nil_append, List.cons_append, List.set_cons_zero, List.set_cons_succ,
    cond_true, cond_false, decide_true, decide_false, Bool.true_and, Bool.and_true, Bool.false_and, Bool.and_false, Bool.true_or, Bool.or_true, Bool.false_or, Bool.or_false, Bool.not_true, Bool.not_false, Bool.and_self, Bool.or_self, bT, bF, ieq, ine, decide_eq_true_eq, decide_not,
    Nat.reduceEqDiff, Nat.reduceAdd, Nat.reduceSub, Nat.reduceMul, Nat.reduceLeDiff, Nat.reduceLT, Nat.zero_add, Nat.add_zero, Option.getD_some, Option.getD_none, Option.isSome_some, Option.isSome_none, reduceIte, reduceCtorEq, and_self, and_true, true_and, not_true_eq_false, not_false_eq_true, false_imp_iff, forall_const, imp_self,
    Int.reduceNeg, Int.reduceLT, Int.reduceLE, Int.reduceGT, Int.reduceGE, Int.reduceAdd, Int.reduceSub, Int.reduceMul, Int.reduceToNat, Int.reduceEq, ne_eq, eq_self, beq_self_eq_true]

theorem byte_shift (v j : Nat) : byteAt (v / 2 ^ 32) j = byteAt v (j + 4) := by
  unfold byteAt
  rw [Nat.div_div_eq_div_mul, show (2 ^ 32 : Nat) = 256 ^ 4 from rfl, ← Nat.pow_add, Nat.add_comm 4 j]

theorem put_joins (v : Nat) : putS [] (v / 2 ^ 32) 4 ++ putS [] v 4 = putS [] v 8 := by
  show ([] ++ bes (v / 2 ^ 32) 4) ++ ([] ++ bes v 4) = [] ++ bes v 8
  simp only [bes, List.nil_append, List.cons_append, byte_shift, Nat.reduceAdd, Nat.zero_add]

theorem put_more (l : List UInt8) (v : Nat) : putS l v 4 = l ++ putS [] v 4 := rfl

set_option maxRecDepth 10000 in
set_option maxHeartbeats 8000000 in
theorem run12 (hC : Lib01 C) (v m : Nat) (n : Int) (hv : v < 18446744073709551616) (hn : -9223372036854775808 ≤ n) (hn2 : n < 9223372036854775808) (hm : m < 256) (B : Hp) :
    runV T C fi12 [.int .u64 v, .int .i64 n, .int .u8 m] B = some (.bool true, B) := by
  rw [e_run _ _ _ rfl]
  have e4 := c41 hC
  have a0 : shrV .u64 (v : Int) 32 = ((v / 2 ^ 32 : Nat) : Int) := shr_nat .u64 v 32 (by decide)
  have hv2 : v / 2 ^ 32 ≤ v := Nat.div_le_self _ _
  have a1 : ∀ B, C 54 [.vec 1 [] .none, .int .u64 ((v / 2 ^ 32 : Nat) : Int), .int .i64 4] B = some (.vec 1 ((putS [] (v / 2 ^ 32) 4).map byteD) .fresh, B) := c54 hC [] (v / 2 ^ 32) 4 (by omega) (by simp)
  have a2 : ∀ B, C 54 [.vec 1 [] .none, .int .u64 (v : Int), .int .i64 4] B = some (.vec 1 ((putS [] v 4).map byteD) .fresh, B) := c54 hC [] v 4 hv (by simp)
  have a3 : ∀ B, C 54 [.vec 1 [] .none, .int .u64 (v : Int), .int .i64 8] B = some (.vec 1 ((putS [] v 8).map byteD) .fresh, B) := c54 hC [] v 8 hv (by simp)
  have a4 : ∀ B, C 54 [.vec 1 ((putS [] (v / 2 ^ 32) 4).map byteD) .none, .int .u64 (v : Int), .int .i64 4] B = some (.vec 1 ((putS [] v 8).map byteD) .fresh, B) := fun B => by
    have hle : (putS [] (v / 2 ^ 32) 4).length ≤ 1000 := Nat.le_trans put_len (by decide)
    have h := c54 hC (putS [] (v / 2 ^ 32) 4) v 4 hv hle B
    rw [put_more (putS [] (v / 2 ^ 32) 4), put_joins] at h; exact h
  have b1 := bytesOf_map
  have b2 : strV .add (putS [] (v / 2 ^ 32) 4) (putS [] v 4) = some (.str (putS [] v 8)) := by
    have h1 := put_len (l := []) (v := v / 2 ^ 32) (n := 4)
    have h2 := put_len (l := []) (v := v) (n := 4)
    simp only [List.length_nil] at h1 h2
    unfold strV
    simp only
    rw [if_pos (by omega), put_joins]
  generalize putS [] (v / 2 ^ 32) 4 = pa at a1 a4 b2
  generalize putS [] v 4 = pb at a2 b2
  generalize putS [] v 8 = pc at a3 a4 b2
  generalize v / 2 ^ 32 = w at a0 a1
  obtain ⟨k1, k2⟩ := bits_of m
  have hk1 : 1 ≤ m % 63 + 1 := by omega
  have hk2 : m % 63 + 1 ≤ 63 := by omega
  generalize m % 63 + 1 = k at k2 hk1 hk2
  have k3 : IntKind.i64.wrap ((k : Int) + 1) = ((k + 1 : Nat) : Int) := by rw [wrapI (by omega) (by omega)]; rfl
  have k4 : IntKind.u64.wrap (k : Int) = k := wrap_u64 (by omega) (by omega)
  have k5 := shl_one (b := k) (by omega)
  have k6 : ¬ (k : Int) < 0 := by omega
  have s1 := c28 hC n k hn hn2
  have s2 := c28 hC n ((k + 1 : Nat) : Int) hn hn2
  -- the second part
  have hb := bitsN_64 hv
  have ho := ones_span v
  have hlt := ones_le v
  have o1 := c35 hC v hv
  have o2 := c39 hC v hv
  have o3 := c37 hC v hv
  have o4 : ∀ x : Bool, v ≠ 0 → ∃ z1 z2 : Int, IntKind.i64.wrap (((bitsN v : Int) - 1) - lowS v) = z1 ∧ IntKind.i64.wrap (z1 + 1) = z2 ∧ ((onesN v : Nat) : Int) ≤ z2 := fun _ h => by
    have hc := ctz_lt v (by omega)
    refine ⟨(bitsN v : Int) - 1 - ctzN v, (bitsN v : Int) - ctzN v, ?_, ?_, ?_⟩
    · unfold lowS; rw [if_neg h, wrapI (by omega) (by omega)]
    · rw [wrapI (by omega) (by omega)]; omega
    · omega
  have p2 : 2 ^ (k + 1) = 2 * 2 ^ k := by rw [Nat.pow_succ]; omega
  have e0 : ¬ ((k : Int) < 1 ∨ (k : Int) > 64) := by omega
  have e1 : ¬ (((k + 1 : Nat) : Int) < 1 ∨ ((k + 1 : Nat) : Int) > 64) := by omega
  by_cases hn0 : n < 0
  · have t1 : smallS n k = (0, 2) := by unfold smallS; rw [if_neg e0, if_pos (.inl hn0)]
    have t2 : smallS n ((k + 1 : Nat) : Int) = (0, 2) := by unfold smallS; rw [if_neg e1, if_pos (.inl hn0)]
    rw [t1] at s1; rw [t2] at s2
    have s1 : ∀ B, C 28 [.int .i64 n, .int .i64 (k : Int)] B = some (.tuple [.int .u64 0, .iface 85 (.int .i64 2)], B) := s1
    have s2 : ∀ B, C 28 [.int .i64 n, .int .i64 ((k + 1 : Nat) : Int)] B = some (.tuple [.int .u64 0, .iface 85 (.int .i64 2)], B) := s2
    by_cases hz : v = 0
    · have z1 : ((v : Int) = 0) = True := eq_true (by omega)
      simp only [fi12, Tryd.f12, an12, str_ne, e4, a0, a1, a2, a3, a4, b1, b2, k1, k2, k3, k4, k5, k6, s1, s2, hn0, z1, T2, T3, T4, T5, T9, T30, T49, T62, T64, e_seq, e_region, e_dyn, e_dynS, stepD, accs, accP, accW, simpleOp, isAl, isExt, flipD, D.fresh1, D.row, D.plain, D.plain.plainL, St.close, St.close1, St.borrow, List.flatten_cons, List.flatten_nil, e_block, e_cond, e_ret, e_skip, e_exit, e_plain, e_guard, e_nil, e_op, e_ifT, e_ifF, e_true, e_false, e_loop, e_l, e_top, e_seqN, e_seqE, e_seqR, e_blockN, e_blockR, e_blockE,
    begin_f, begin_t, end_f, e_finN, e_finX, e_finR, retV, resV, resL, outCL, outC, outL, outD, wantedV, opV, An.mid, thawV, D.plainU, prune, List.map_cons, List.map_nil, envOf, get, put, eval, evalT, nz, argsV, capsV, ofV, nbeq, nble, binV, binV.aggV, unV, intV, eqOp, isConst, natV, optV, loadV, loadC, storeV, setC, St.at_, partV, partTy, indexAddrV, fieldAddrV, sliceV, sliceV.rowSl, sliceV.strSl, bounds, cutP,
    builtinV, lenV, maxL, maxV, appendV, St.elems, roomy, rowOf, rowS, isStr, esz, tdOf, convV, buildV, fillV, partsV, okParts, fillL, D.whole, D.demoteC, D.demote, demoteL, D.global, D.flat, D.leaf, D.cells, TI.agg, TD.rowish, callOpV, moveL, CC, keepB, St.borrowL, St.borrow, D.isLsl, adoptR, adoptC, adoptCL, adoptL, adopt,
    List.toArray, Array.toList, List.length_cons, List.length_nil, List.length_map, List.length_append, List.length_replicate, List.replicate_succ, List.replicate_zero, List.replicate_one, ← List.map_take, ← List.map_drop, List.isEmpty_cons, List.isEmpty_nil, List.drop_zero, List.take_succ_cons, List.take_zero, List.take_nil, List.drop_succ_cons, List.drop_nil, Nat.zero_le, Nat.le_refl, Nat.sub_zero, List.getElem?_cons_succ, List.getElem?_cons_zero, List.getElem?_nil, List.any_cons, List.any_nil, List.all_cons, List.all_nil, List.append_nil, List.nil_append, List.cons_append, List.set_cons_zero, List.set_cons_succ,
    cond_true, cond_false, decide_true, decide_false, Bool.true_and, Bool.and_true, Bool.false_and, Bool.and_false, Bool.true_or, Bool.or_true, Bool.false_or, Bool.or_false, Bool.not_true, Bool.not_false, Bool.and_self, Bool.or_self, bT, bF, ieq, ine, decide_eq_true_eq, decide_not,
    Nat.reduceEqDiff, Nat.reduceAdd, Nat.reduceSub, Nat.reduceMul, Nat.reduceLeDiff, Nat.reduceLT, Nat.zero_add, Nat.add_zero, Option.getD_some, Option.getD_none, Option.isSome_some, Option.isSome_none, reduceIte, reduceCtorEq, and_self, and_true, true_and, not_true_eq_false, not_false_eq_true, false_imp_iff, forall_const, imp_self,
    Int.reduceNeg, Int.reduceLT, Int.reduceLE, Int.reduceGT, Int.reduceGE, Int.reduceAdd, Int.reduceSub, Int.reduceMul, Int.reduceToNat, Int.reduceEq, ne_eq, eq_self, beq_self_eq_true]
    · have z1 : ((v : Int) = 0) = False := eq_false (by omega)
      obtain ⟨y1, y2, o5, o6, o7⟩ := o4 true hz
      simp only [fi12, Tryd.f12, an12, str_ne, e4, a0, a1, a2, a3, a4, b1, b2, k1, k2, k3, k4, k5, k6, s1, s2, hn0, z1, o1, o2, o3, o5, o6, o7, T2, T3, T4, T5, T9, T30, T49, T62, T64, e_seq, e_region, e_dyn, e_dynS, stepD, accs, accP, accW, simpleOp, isAl, isExt, flipD, D.fresh1, D.row, D.plain, D.plain.plainL, St.close, St.close1, St.borrow, List.flatten_cons, List.flatten_nil, e_block, e_cond, e_ret, e_skip, e_exit, e_plain, e_guard, e_nil, e_op, e_ifT, e_ifF, e_true, e_false, e_loop, e_l, e_top, e_seqN, e_seqE, e_seqR, e_blockN, e_blockR, e_blockE,
    begin_f, begin_t, end_f, e_finN, e_finX, e_finR, retV, resV, resL, outCL, outC, outL, outD, wantedV, opV, An.mid, thawV, D.plainU, prune, List.map_cons, List.map_nil, envOf, get, put, eval, evalT, nz, argsV, capsV, ofV, nbeq, nble, binV, binV.aggV, unV, intV, eqOp, isConst, natV, optV, loadV, loadC, storeV, setC, St.at_, partV, partTy, indexAddrV, fieldAddrV, sliceV, sliceV.rowSl, sliceV.strSl, bounds, cutP,
    builtinV, lenV, maxL, maxV, appendV, St.elems, roomy, rowOf, rowS, isStr, esz, tdOf, convV, buildV, fillV, partsV, okParts, fillL, D.whole, D.demoteC, D.demote, demoteL, D.global, D.flat, D.leaf, D.cells, TI.agg, TD.rowish, callOpV, moveL, CC, keepB, St.borrowL, St.borrow, D.isLsl, adoptR, adoptC, adoptCL, adoptL, adopt,
    List.toArray, Array.toList, List.length_cons, List.length_nil, List.length_map, List.length_append, List.length_replicate, List.replicate_succ, List.replicate_zero, List.replicate_one, ← List.map_take, ← List.map_drop, List.isEmpty_cons, List.isEmpty_nil, List.drop_zero, List.take_succ_cons, List.take_zero, List.take_nil, List.drop_succ_cons, List.drop_nil, Nat.zero_le, Nat.le_refl, Nat.sub_zero, List.getElem?_cons_succ, List.getElem?_cons_zero, List.getElem?_nil, List.any_cons, List.any_nil, List.all_cons, List.all_nil, List.append_nil, List.nil_append, List.cons_append, List.set_cons_zero, List.set_cons_succ,
    cond_true, cond_false, decide_true, decide_false, Bool.true_and, Bool.and_true, Bool.false_and, Bool.and_false, Bool.true_or, Bool.or_true, Bool.false_or, Bool.or_false, Bool.not_true, Bool.not_false, Bool.and_self, Bool.or_self, bT, bF, ieq, ine, decide_eq_true_eq, decide_not,
    Nat.reduceEqDiff, Nat.reduceAdd, Nat.reduceSub, Nat.reduceMul, Nat.reduceLeDiff, Nat.reduceLT, Nat.zero_add, Nat.add_zero, Option.getD_some, Option.getD_none, Option.isSome_some, Option.isSome_none, reduceIte, reduceCtorEq, and_self, and_true, true_and, not_true_eq_false, not_false_eq_true, false_imp_iff, forall_const, imp_self,
    Int.reduceNeg, Int.reduceLT, Int.reduceLE, Int.reduceGT, Int.reduceGE, Int.reduceAdd, Int.reduceSub, Int.reduceMul, Int.reduceToNat, Int.reduceEq, ne_eq, eq_self, beq_self_eq_true]
  · obtain ⟨n, rfl⟩ : ∃ q : Nat, n = q := ⟨n.toNat, by omega⟩
    have w1 : IntKind.u64.wrap (n : Int) = n := wrap_u64 (by omega) (by omega)
    by_cases hnk : n < 2 ^ k
    · have t1 : smallS n k = (n, 0) := by unfold smallS; rw [if_neg e0, Int.toNat_natCast, Int.toNat_natCast, if_neg (by omega)]
      have t2 : smallS n ((k + 1 : Nat) : Int) = (n, 0) := by unfold smallS; rw [if_neg e1, Int.toNat_natCast, Int.toNat_natCast, if_neg (by omega)]
      rw [t1] at s1; rw [t2] at s2
      simp only [errD_zero] at s1 s2
      have w2 : ¬ (n : Int) ≥ ((2 ^ k : Nat) : Int) := by omega
      by_cases hz : v = 0
      · have z1 : ((v : Int) = 0) = True := eq_true (by omega)
        simp only [fi12, Tryd.f12, an12, str_ne, e4, a0, a1, a2, a3, a4, b1, b2, k1, k2, k3, k4, k5, k6, s1, s2, hn0, w1, w2, z1, T2, T3, T4, T5, T9, T30, T49, T62, T64, e_seq, e_region, e_dyn, e_dynS, stepD, accs, accP, accW, simpleOp, isAl, isExt, flipD, D.fresh1, D.row, D.plain, D.plain.plainL, St.close, St.close1, St.borrow, List.flatten_cons, List.flatten_nil, e_block, e_cond, e_ret, e_skip, e_exit, e_plain, e_guard, e_nil, e_op, e_ifT, e_ifF, e_true, e_false, e_loop, e_l, e_top, e_seqN, e_seqE, e_seqR, e_blockN, e_blockR, e_blockE,
    begin_f, begin_t, end_f, e_finN, e_finX, e_finR, retV, resV, resL, outCL, outC, outL, outD, wantedV, opV, An.mid, thawV, D.plainU, prune, List.map_cons, List.map_nil, envOf, get, put, eval, evalT, nz, argsV, capsV, ofV, nbeq, nble, binV, binV.aggV, unV, intV, eqOp, isConst, natV, optV, loadV, loadC, storeV, setC, St.at_, partV, partTy, indexAddrV, fieldAddrV, sliceV, sliceV.rowSl, sliceV.strSl, bounds, cutP,
    builtinV, lenV, maxL, maxV, appendV, St.elems, roomy, rowOf, rowS, isStr, esz, tdOf, convV, buildV, fillV, partsV, okParts, fillL, D.whole, D.demoteC, D.demote, demoteL, D.global, D.flat, D.leaf, D.cells, TI.agg, TD.rowish, callOpV, moveL, CC, keepB, St.borrowL, St.borrow, D.isLsl, adoptR, adoptC, adoptCL, adoptL, adopt,
    List.toArray, Array.toList, List.length_cons, List.length_nil, List.length_map, List.length_append, List.length_replicate, List.replicate_succ, List.replicate_zero, List.replicate_one, ← List.map_take, ← List.map_drop, List.isEmpty_cons, List.isEmpty_nil, List.drop_zero, List.take_succ_cons, List.take_zero, List.take_nil, List.drop_succ_cons, List.drop_nil, Nat.zero_le, Nat.le_refl, Nat.sub_zero, List.getElem?_cons_succ, List.getElem?_cons_zero, List.getElem?_nil, List.any_cons, List.any_nil, List.all_cons, List.all_nil, List.append_nil, List.nil_append, List.cons_append, List.set_cons_zero, List.set_cons_succ,
    cond_true, cond_false, decide_true, decide_false, Bool.true_and, Bool.and_true, Bool.false_and, Bool.and_false, Bool.true_or, Bool.or_true, Bool.false_or, Bool.or_false, Bool.not_true, Bool.not_false, Bool.and_self, Bool.or_self, bT, bF, ieq, ine, decide_eq_true_eq, decide_not,
    Nat.reduceEqDiff, Nat.reduceAdd, Nat.reduceSub, Nat.reduceMul, Nat.reduceLeDiff, Nat.reduceLT, Nat.zero_add, Nat.add_zero, Option.getD_some, Option.getD_none, Option.isSome_some, Option.isSome_none, reduceIte, reduceCtorEq, and_self, and_true, true_and, not_true_eq_false, not_false_eq_true, false_imp_iff, forall_const, imp_self,
    Int.reduceNeg, Int.reduceLT, Int.reduceLE, Int.reduceGT, Int.reduceGE, Int.reduceAdd, Int.reduceSub, Int.reduceMul, Int.reduceToNat, Int.reduceEq, ne_eq, eq_self, beq_self_eq_true]
      · have z1 : ((v : Int) = 0) = False := eq_false (by omega)
        obtain ⟨y1, y2, o5, o6, o7⟩ := o4 true hz
        simp only [fi12, Tryd.f12, an12, str_ne, e4, a0, a1, a2, a3, a4, b1, b2, k1, k2, k3, k4, k5, k6, s1, s2, hn0, w1, w2, z1, o1, o2, o3, o5, o6, o7, T2, T3, T4, T5, T9, T30, T49, T62, T64, e_seq, e_region, e_dyn, e_dynS, stepD, accs, accP, accW, simpleOp, isAl, isExt, flipD, D.fresh1, D.row, D.plain, D.plain.plainL, St.close, St.close1, St.borrow, List.flatten_cons, List.flatten_nil, e_block, e_cond, e_ret, e_skip, e_exit, e_plain, e_guard, e_nil, e_op, e_ifT, e_ifF, e_true, e_false, e_loop, e_l, e_top, e_seqN, e_seqE, e_seqR, e_blockN, e_blockR, e_blockE,
    begin_f, begin_t, end_f, e_finN, e_finX, e_finR, retV, resV, resL, outCL, outC, outL, outD, wantedV, opV, An.mid, thawV, D.plainU, prune, List.map_cons, List.map_nil, envOf, get, put, eval, evalT, nz, argsV, capsV, ofV, nbeq, nble, binV, binV.aggV, unV, intV, eqOp, isConst, natV, optV, loadV, loadC, storeV, setC, St.at_, partV, partTy, indexAddrV, fieldAddrV, sliceV, sliceV.rowSl, sliceV.strSl, bounds, cutP,
    builtinV, lenV, maxL, maxV, appendV, St.elems, roomy, rowOf, rowS, isStr, esz, tdOf, convV, buildV, fillV, partsV, okParts, fillL, D.whole, D.demoteC, D.demote, demoteL, D.global, D.flat, D.leaf, D.cells, TI.agg, TD.rowish, callOpV, moveL, CC, keepB, St.borrowL, St.borrow, D.isLsl, adoptR, adoptC, adoptCL, adoptL, adopt,
    List.toArray, Array.toList, List.length_cons, List.length_nil, List.length_map, List.length_append, List.length_replicate, List.replicate_succ, List.replicate_zero, List.replicate_one, ← List.map_take, ← List.map_drop, List.isEmpty_cons, List.isEmpty_nil, List.drop_zero, List.take_succ_cons, List.take_zero, List.take_nil, List.drop_succ_cons, List.drop_nil, Nat.zero_le, Nat.le_refl, Nat.sub_zero, List.getElem?_cons_succ, List.getElem?_cons_zero, List.getElem?_nil, List.any_cons, List.any_nil, List.all_cons, List.all_nil, List.append_nil, List.nil_append, List.cons_append, List.set_cons_zero, List.set_cons_succ,
    cond_true, cond_false, decide_true, decide_false, Bool.true_and, Bool.and_true, Bool.false_and, Bool.and_false, Bool.true_or, Bool.or_true, Bool.false_or, Bool.or_false, Bool.not_true, Bool.not_false, Bool.and_self, Bool.or_self, bT, bF, ieq, ine, decide_eq_true_eq, decide_not,
    Nat.reduceEqDiff, Nat.reduceAdd, Nat.reduceSub, Nat.reduceMul, Nat.reduceLeDiff, Nat.reduceLT, Nat.zero_add, Nat.add_zero, Option.getD_some, Option.getD_none, Option.isSome_some, Option.isSome_none, reduceIte, reduceCtorEq, and_self, and_true, true_and, not_true_eq_false, not_false_eq_true, false_imp_iff, forall_const, imp_self,
    Int.reduceNeg, Int.reduceLT, Int.reduceLE, Int.reduceGT, Int.reduceGE, Int.reduceAdd, Int.reduceSub, Int.reduceMul, Int.reduceToNat, Int.reduceEq, ne_eq, eq_self, beq_self_eq_true]
    · have t1 : smallS n k = (0, 2) := by unfold smallS; rw [if_neg e0, Int.toNat_natCast, Int.toNat_natCast, if_pos (.inr hnk)]
      rw [t1] at s1
      have s1 : ∀ B, C 28 [.int .i64 (n : Int), .int .i64 (k : Int)] B = some (.tuple [.int .u64 0, .iface 85 (.int .i64 2)], B) := s1
      have w2 : (n : Int) ≥ ((2 ^ k : Nat) : Int) := by omega
      by_cases hz : v = 0
      · have z1 : ((v : Int) = 0) = True := eq_true (by omega)
        simp only [fi12, Tryd.f12, an12, str_ne, e4, a0, a1, a2, a3, a4, b1, b2, k1, k2, k3, k4, k5, k6, s1, s2, hn0, w1, w2, z1, errD_dem, errD_demC, errD_bor, errD_out, errD_outC, errD_ado, errD_adoC, errD_adoR, errD_plain, errD_close, errD_lsl, errD_fresh, implies_true, false_implies, D.vec.injEq, adopt.eq_1, adopt.eq_2, adoptC.eq_1, adoptC.eq_2, adoptR.eq_1, adoptR.eq_2, outD.eq_1, outD.eq_2, outD.eq_3, outC.eq_1, outC.eq_2, D.demote.eq_1, D.demote.eq_2, D.demoteC.eq_1, D.demoteC.eq_2, St.borrow.eq_1, St.borrow.eq_2, D.isLsl.eq_1, D.isLsl.eq_2, D.fresh1.eq_1, D.fresh1.eq_2, St.close.eq_1, St.close.eq_2, T2, T3, T4, T5, T9, T30, T49, T62, T64, e_seq, e_region, e_dyn, e_dynS, stepD, accs, accP, accW, simpleOp, isAl, isExt, flipD, D.row, D.plain, D.plain.plainL, St.close1, List.flatten_cons, List.flatten_nil, e_block, e_cond, e_ret, e_skip, e_exit, e_plain, e_guard, e_nil, e_op, e_ifT, e_ifF, e_true, e_false, e_loop, e_l, e_top, e_seqN, e_seqE, e_seqR, e_blockN, e_blockR, e_blockE,
    begin_f, begin_t, end_f, e_finN, e_finX, e_finR, retV, resV, resL, outCL, outL, wantedV, opV, An.mid, thawV, D.plainU, prune, List.map_cons, List.map_nil, envOf, get, put, eval, evalT, nz, argsV, capsV, ofV, nbeq, nble, binV, binV.aggV, unV, intV, eqOp, isConst, natV, optV, loadV, loadC, storeV, setC, St.at_, partV, partTy, indexAddrV, fieldAddrV, sliceV, sliceV.rowSl, sliceV.strSl, bounds, cutP,
    builtinV, lenV, maxL, maxV, appendV, St.elems, roomy, rowOf, rowS, isStr, esz, tdOf, convV, buildV, fillV, partsV, okParts, fillL, D.whole, demoteL, D.global, D.flat, D.leaf, D.cells, TI.agg, TD.rowish, callOpV, moveL, CC, keepB, St.borrowL, adoptCL, adoptL, 
    List.toArray, Array.toList, List.length_cons, List.length_nil, List.length_map, List.length_append, List.length_replicate, List.replicate_succ, List.replicate_zero, List.replicate_one, ← List.map_take, ← List.map_drop, List.isEmpty_cons, List.isEmpty_nil, List.drop_zero, List.take_succ_cons, List.take_zero, List.take_nil, List.drop_succ_cons, List.drop_nil, Nat.zero_le, Nat.le_refl, Nat.sub_zero, List.getElem?_cons_succ, List.getElem?_cons_zero, List.getElem?_nil, List.any_cons, List.any_nil, List.all_cons, List.all_nil, List.append_nil, List.nil_append, List.cons_append, List.set_cons_zero, List.set_cons_succ,
    cond_true, cond_false, decide_true, decide_false, Bool.true_and, Bool.and_true, Bool.false_and, Bool.and_false, Bool.true_or, Bool.or_true, Bool.false_or, Bool.or_false, Bool.not_true, Bool.not_false, Bool.and_self, Bool.or_self, bT, bF, ieq, ine, decide_eq_true_eq, decide_not,
    Nat.reduceEqDiff, Nat.reduceAdd, Nat.reduceSub, Nat.reduceMul, Nat.reduceLeDiff, Nat.reduceLT, Nat.zero_add, Nat.add_zero, Option.getD_some, Option.getD_none, Option.isSome_some, Option.isSome_none, reduceIte, reduceCtorEq, and_self, and_true, true_and, not_true_eq_false, not_false_eq_true, false_imp_iff, forall_const, imp_self,
    Int.reduceNeg, Int.reduceLT, Int.reduceLE, Int.reduceGT, Int.reduceGE, Int.reduceAdd, Int.reduceSub, Int.reduceMul, Int.reduceToNat, Int.reduceEq, ne_eq, eq_self, beq_self_eq_true]
      · have z1 : ((v : Int) = 0) = False := eq_false (by omega)
        obtain ⟨y1, y2, o5, o6, o7⟩ := o4 true hz
        simp only [fi12, Tryd.f12, an12, str_ne, e4, a0, a1, a2, a3, a4, b1, b2, k1, k2, k3, k4, k5, k6, s1, s2, hn0, w1, w2, z1, o1, o2, o3, o5, o6, o7, errD_dem, errD_demC, errD_bor, errD_out, errD_outC, errD_ado, errD_adoC, errD_adoR, errD_plain, errD_close, errD_lsl, errD_fresh, implies_true, false_implies, D.vec.injEq, adopt.eq_1, adopt.eq_2, adoptC.eq_1, adoptC.eq_2, adoptR.eq_1, adoptR.eq_2, outD.eq_1, outD.eq_2, outD.eq_3, outC.eq_1, outC.eq_2, D.demote.eq_1, D.demote.eq_2, D.demoteC.eq_1, D.demoteC.eq_2, St.borrow.eq_1, St.borrow.eq_2, D.isLsl.eq_1, D.isLsl.eq_2, D.fresh1.eq_1, D.fresh1.eq_2, St.close.eq_1, St.close.eq_2, T2, T3, T4, T5, T9, T30, T49, T62, T64, e_seq, e_region, e_dyn, e_dynS, stepD, accs, accP, accW, simpleOp, isAl, isExt, flipD, D.row, D.plain, D.plain.plainL, St.close1, List.flatten_cons, List.flatten_nil, e_block, e_cond, e_ret, e_skip, e_exit, e_plain, e_guard, e_nil, e_op, e_ifT, e_ifF, e_true, e_false, e_loop, e_l, e_top, e_seqN, e_seqE, e_seqR, e_blockN, e_blockR, e_blockE,
    begin_f, begin_t, end_f, e_finN, e_finX, e_finR, retV, resV, resL, outCL, outL, wantedV, opV, An.mid, thawV, D.plainU, prune, List.map_cons, List.map_nil, envOf, get, put, eval, evalT, nz, argsV, capsV, ofV, nbeq, nble, binV, binV.aggV, unV, intV, eqOp, isConst, natV, optV, loadV, loadC, storeV, setC, St.at_, partV, partTy, indexAddrV, fieldAddrV, sliceV, sliceV.rowSl, sliceV.strSl, bounds, cutP,
    builtinV, lenV, maxL, maxV, appendV, St.elems, roomy, rowOf, rowS, isStr, esz, tdOf, convV, buildV, fillV, partsV, okParts, fillL, D.whole, demoteL, D.global, D.flat, D.leaf, D.cells, TI.agg, TD.rowish, callOpV, moveL, CC, keepB, St.borrowL, adoptCL, adoptL, 
    List.toArray, Array.toList, List.length_cons, List.length_nil, List.length_map, List.length_append, List.length_replicate, List.replicate_succ, List.replicate_zero, List.replicate_one, ← List.map_take, ← List.map_drop, List.isEmpty_cons, List.isEmpty_nil, List.drop_zero, List.take_succ_cons, List.take_zero, List.take_nil, List.drop_succ_cons, List.drop_nil, Nat.zero_le, Nat.le_refl, Nat.sub_zero, List.getElem?_cons_succ, List.getElem?_cons_zero, List.getElem?_nil, List.any_cons, List.any_nil, List.all_cons, List.all_nil, List.append_nil, List.nil_append, List.cons_append, List.set_cons_zero, List.set_cons_succ,
    cond_true, cond_false, decide_true, decide_false, Bool.true_and, Bool.and_true, Bool.false_and, Bool.and_false, Bool.true_or, Bool.or_true, Bool.false_or, Bool.or_false, Bool.not_true, Bool.not_false, Bool.and_self, Bool.or_self, bT, bF, ieq, ine, decide_eq_true_eq, decide_not,
    Nat.reduceEqDiff, Nat.reduceAdd, Nat.reduceSub, Nat.reduceMul, Nat.reduceLeDiff, Nat.reduceLT, Nat.zero_add, Nat.add_zero, Option.getD_some, Option.getD_none, Option.isSome_some, Option.isSome_none, reduceIte, reduceCtorEq, and_self, and_true, true_and, not_true_eq_false, not_false_eq_true, false_imp_iff, forall_const, imp_self,
    Int.reduceNeg, Int.reduceLT, Int.reduceLE, Int.reduceGT, Int.reduceGE, Int.reduceAdd, Int.reduceSub, Int.reduceMul, Int.reduceToNat, Int.reduceEq, ne_eq, eq_self, beq_self_eq_true]

end Go.Proofs.YtploddijjofphaaDoor.V
