/-
Layer 3: what was put is got; VarintBack, VarintApart.
-/
import Derived.Test.YtdmlojinmkcldaaDoorJG
namespace Go.Proofs.YtdmlojinmkcldaaDoor.V
open Go Go.RowKit
set_option linter.unusedSimpArgs false
set_option linter.unusedVariables false

/-! warren/warrenlaw03.VarintBack -/
def an12 : An := ⟨fun _ => .none, fun _ => false, fun _ => false⟩
noncomputable def fi12 : FI := ⟨3, 106, Tryd.f12.body.getD .skip, Tryd.f12.results.toList, an12⟩
theorem ok12 : FnOk Tryd.prog 12 fi12 := ⟨⟨Tryd.f12, Tryd.func12, by kernel_rfl, rfl, rfl, rfl⟩, by decide, by kernel_rfl⟩
/-! warren/warrenlaw03.VarintApart -/
def an13 : An := ⟨fun _ => .none, fun _ => false, fun _ => false⟩
noncomputable def fi13 : FI := ⟨2, 94, Tryd.f13.body.getD .skip, Tryd.f13.results.toList, an13⟩
theorem ok13 : FnOk Tryd.prog 13 fi13 := ⟨⟨Tryd.f13, Tryd.func13, by kernel_rfl, rfl, rfl, rfl⟩, by decide, by kernel_rfl⟩

theorem u8_nat {n : Nat} (h : n < 256) : (UInt8.ofNat n).toNat = n := by simp; omega

theorem pow_small {v i : Nat} (h : v * 128 ^ i < 18446744073709551616) (hv : 0 < v) : i ≤ 9 ∧ (i = 9 → v ≤ 1) := by
  constructor
  · rcases Nat.lt_or_ge 9 i with h1 | h1
    · have h2 : (128 : Nat) ^ 10 ≤ 128 ^ i := Nat.pow_le_pow_right (by decide) h1
      have h3 : 1 * 128 ^ 10 ≤ v * 128 ^ i := Nat.mul_le_mul hv h2
      have : (128 : Nat) ^ 10 = 1180591620717411303424 := by decide
      omega
    · exact h1
  · rintro rfl
    have : (128 : Nat) ^ 9 = 9223372036854775808 := by decide
    omega

theorem getS_put (b : List UInt8) (v : Nat) : ∀ (i acc : Nat), (0 < i → 0 < v) → v * 128 ^ i < 18446744073709551616 → i ≤ 9 → getS (putS v ++ b) i acc = (acc + v * 128 ^ i, i + (putS v).length, 0) := by
  induction v using putS.induct with
  | case1 v h =>
    intro i acc hi hb h9
    rw [putS_small h]
    simp only [List.cons_append, List.nil_append, getS, u8_nat (by omega : v < 256), List.length_cons, List.length_nil]
    rw [if_neg, if_neg (by omega), if_pos h]
    rintro ⟨rfl, h1⟩
    have := (pow_small hb (by omega)).2 rfl
    omega
  | case2 v h ih =>
    intro i acc hi hb h9
    have h8 : i < 9 := by
      have := pow_small hb (by omega); omega
    have e1 : v = v % 128 + 128 * (v / 128) := by omega
    have e2 : v / 128 * 128 ^ (i + 1) + v % 128 * 128 ^ i = v * 128 ^ i := by
      rw [Nat.pow_succ, Nat.mul_comm (128 ^ i) 128, ← Nat.mul_assoc, ← Nat.add_mul]
      congr 1; omega
    rw [putS_big h]
    simp only [List.cons_append, getS, u8_nat (by omega : 128 + v % 128 < 256), List.length_cons]
    rw [if_neg (by omega), if_neg (by omega), if_neg (by omega), ih (i + 1) _ (by omega) (by omega) (by omega), show 128 + v % 128 - 128 = v % 128 by omega]
    ext <;> simp only <;> omega

theorem getS_put0 (b : List UInt8) {v : Nat} (hv : v < 18446744073709551616) : getS (putS v ++ b) 0 0 = (v, (putS v).length, 0) := by
  rw [getS_put b v 0 0 (by omega) (by omega) (by omega)]; simp

theorem get_cut (v : Nat) : ∀ (i acc : Nat), (0 < i → 0 < v) → v * 128 ^ i < 18446744073709551616 → i ≤ 9 → getS ((putS v).take ((putS v).length - 1)) i acc = (0, 0, 6) := by
  induction v using putS.induct with
  | case1 v h =>
    intro i acc hi hb h9
    rw [putS_small h]; simp [getS]
  | case2 v h ih =>
    intro i acc hi hb h9
    have h8 : i < 9 := by
      have := pow_small hb (by omega); omega
    have e2 : v / 128 * 128 ^ (i + 1) + v % 128 * 128 ^ i = v * 128 ^ i := by
      rw [Nat.pow_succ, Nat.mul_comm (128 ^ i) 128, ← Nat.mul_assoc, ← Nat.add_mul]
      congr 1; omega
    have hl : 0 < (putS (v / 128)).length := by rw [putS_size]; unfold sizeS; omega
    rw [putS_big h]
    rw [show (UInt8.ofNat (128 + v % 128) :: putS (v / 128)).length - 1 = ((putS (v / 128)).length - 1) + 1 by simp; omega, List.take_succ_cons]
    simp only [getS, u8_nat (by omega : 128 + v % 128 < 256)]
    rw [if_neg (by omega), if_neg (by omega), if_neg (by omega), ih (i + 1) _ (by omega) (by omega) (by omega)]

theorem putS_ne (v : Nat) : putS v ≠ [] := by
  intro h
  have := putS_size v
  rw [h] at this; simp [sizeS] at this; omega

theorem begins_iff {a b : Nat} (ha : a < 18446744073709551616) (hb : b < 18446744073709551616) (hl : (putS a).length ≤ (putS b).length) : ((putS b).take (putS a).length == putS a) = decide (a = b) := by
  by_cases h : a = b
  · subst h; simp
  · have : ¬ (putS b).take (putS a).length = putS a := fun h1 => by
      have e : putS b = putS a ++ (putS b).drop (putS a).length := by
        have := List.take_append_drop (putS a).length (putS b)
        rw [h1] at this; exact this.symm
      have g1 := getS_put0 [] hb
      rw [List.append_nil, e, getS_put0 _ ha] at g1
      exact h (congrArg Prod.fst g1)
    simp [h, this]

theorem sizeS_pos (v : Nat) : 1 ≤ sizeS v := by unfold sizeS; omega
theorem sizeS_le {v : Nat} (h : v < 18446744073709551616) : sizeS v ≤ 10 := by
  have := bitsN_64 h
  unfold sizeS; omega
theorem sizeS_mono {u v : Nat} (h : u ≤ v) : sizeS u ≤ sizeS v := by
  have := bitsN_mono h
  unfold sizeS; omega

set_option maxRecDepth 10000 in
set_option maxHeartbeats 4000000 in
theorem run12 (C : Callees) (hk : Known03 C) (hs : ∀ B, C 45 [] B = some (.bool true, B)) (d : D) (l : List UInt8) (hd : ArD d l) (v : Nat) (hv : v < 18446744073709551616) (n : Int) (hn0 : -9223372036854775808 ≤ n) (hn1 : n < 9223372036854775808) (B : Hp) :
    runV T C fi12 [.int .u64 v, .int .i64 n, d] B = some (.bool true, B) := by
  rw [e_run _ _ _ rfl]
  by_cases hl : l.length ≤ 300
  · have hsz := putS_size v
    have hne := putS_ne v
    have hp1 := sizeS_pos v
    have hp2 := sizeS_le hv
    have hl2 : ¬ (l.length : Int) > 300 := by omega
    have h1 := hk.put .nilsl [] v B (.inl ⟨rfl, rfl⟩) hv (by simp)
    rw [List.nil_append] at h1
    have h2 : ∀ p, C 46 [.vec 1 ((putS v ++ l).map byteD) p] B = some (.tuple [.int .u64 v, .int .i64 (sizeS v : Nat), .nili], B) := fun p => by
      rw [hk.get _ (putS v ++ l) B (byD_vec _ _), getD3, getS_put0 l hv, hsz]; rfl
    have h3 : ∀ p, C 46 [.vec 1 (((putS v).take (sizeS v - 1)).map byteD) p] B = some (.tuple [.int .u64 0, .int .i64 0, .iface 77 (.int .i64 6)], B) := fun p => by
      rw [hk.get _ ((putS v).take (sizeS v - 1)) B (byD_vec _ _), getD3, ← hsz, get_cut v 0 0 (by omega) (by omega) (by omega)]; rfl
    have h4 := hk.size v B hv
    have h5 : C 48 [.iface 77 (.int .i64 6)] B = some (.int .i64 6, B) := hk.num 6 B
    have h6 := hk.zig n B hn0 hn1
    have h7 := hk.rzig n B hn0 hn1
    have h8 := hk.zag (zigS n) B (zig_lt hn0 hn1)
    rw [zag_zig] at h8
    have h9 := hk.zag v B hv
    have h10 := hk.rzag v B hv
    have hz := zag_in hv
    have h11 := hk.zig (zagS v) B hz.1 hz.2
    rw [zig_zag] at h11
    have w1 : IntKind.i64.wrap ((sizeS v : Int) - 1) = ((sizeS v - 1 : Nat) : Int) := by rw [wrapI (by omega) (by omega)]; omega
    have a1 : ∀ ρ M B, appendV 1 1 ⟨ρ, M, [true], B⟩ (.vec 1 [] .exact) ((putS v).map byteD) = some (.vec 1 ((putS v).map byteD) (.own 1), ⟨ρ, M, [true, true], B⟩) := fun ρ M B => app_exact hne (by omega) ρ M [true] B
    have a2 : ∀ ρ M B, appendV 1 1 ⟨ρ, M, [true, true], B⟩ (.vec 1 ((putS v).map byteD) (.own 1)) (l.map byteD) = some (.vec 1 ((putS v ++ l).map byteD) (.own 2), ⟨ρ, M, [true, false, true], B⟩) := fun ρ M B => app_own (τ := [true, true]) rfl (by omega) ρ M B
    have w3 : (if ((sizeS v - 1 : Nat) : Int) > 0 then ((sizeS v - 1 : Nat) : Int) else 0) = ((sizeS v - 1 : Nat) : Int) := by split <;> omega
    have w4 : ((sizeS v - 1 : Nat) : Int).toNat = sizeS v - 1 := by omega
    have w5 : (0 : Int) ≤ ((sizeS v - 1 : Nat) : Int) := by omega
    have w6 : sizeS v - 1 ≤ sizeS v := by omega
    have w7 : ((0 : Nat) : Int) = 0 := rfl
    have w8 : 0 ≤ sizeS v - 1 := by omega
    have w9 : sizeS v ≤ sizeS v := by omega
    by_cases hv0 : 0 < v
    · have w2 : IntKind.u64.wrap ((v : Int) - 1) = ((v - 1 : Nat) : Int) := by rw [wrap_u64 (by omega) (by omega)]; omega
      have h12 := hk.size (v - 1) B (by omega)
      have h13 := sizeS_mono (by omega : v - 1 ≤ v)
      have h14 : ¬ (sizeS (v - 1) : Int) > sizeS v := by omega
      have h15 : (v : Int) > 0 := by omega
      rcases hd with ⟨rfl, rfl⟩ | rfl
      · simp only [List.map_nil, List.append_nil] at a2 h2
        simp only [fi12, Tryd.f12, an12, h1, h2, h3, h4, h5, h6, h7, h8, h9, h10, h11, w1, a1, a2, w3, w4, w5, w6, w8, w9, hsz, hs, dp, w7, h12, h14, h15, w2, T2, T3, T5, T25, T34, T65, e_seq, e_region, e_dyn, e_dynS, stepD, accs, accP, accW, simpleOp, isAl, isExt, List.flatten_cons, List.flatten_nil, e_block, e_cond, e_ret, e_skip, e_exit, e_plain, e_guard, e_nil, e_op, e_ifT, e_ifF, e_true, e_false, e_loop, e_l, e_top, e_seqN, e_seqE, e_seqR, e_blockN, e_blockR, e_blockE,
    e_finN, e_finX, e_finR, retV, resV, resL, outCL, outC, outL, outD, wantedV, opV, An.at_, prune, List.map_cons, List.map_nil, envOf, get, put, eval, ofV, nbeq, nble, binV, binV.aggV, unV, intV, eqOp, isConst, natV, optV, loadV, loadC, storeV, setC, St.at_, partV, indexAddrV, fieldAddrV, sliceV, sliceV.rowSl, sliceV.strSl, bounds, cutP,
    builtinV, lenV, maxL, maxV, St.elems, roomy, rowOf, rowS, isStr, esz, tdOf, convV, buildV, fillV, partsV, okParts, fillL, D.whole, D.demoteC, D.demote, demoteL, D.global, D.leaf, D.cells, TI.agg, TD.rowish, callOpV, CC, keepB, St.borrowL, St.borrow, D.isLsl, adoptR, adoptC, adoptCL, adoptL, adopt, upd,
    List.toArray, Array.toList, List.length_cons, List.length_nil, List.length_map, List.length_append, List.length_replicate, List.replicate_succ, List.replicate_zero, List.replicate_one, ← List.map_take, ← List.map_drop, List.drop_zero, List.take_succ_cons, List.take_zero, List.take_nil, List.drop_succ_cons, List.drop_nil, Nat.zero_le, Nat.le_refl, Nat.sub_zero, List.getElem?_cons_succ, List.getElem?_cons_zero, List.getElem?_nil, List.any_cons, List.any_nil, List.all_cons, List.all_nil, List.append_nil, List.nil_append, List.cons_append, List.set_cons_zero, List.set_cons_succ,
    cond_true, cond_false, decide_true, decide_false, Bool.true_and, Bool.and_true, Bool.false_and, Bool.and_false, Bool.true_or, Bool.or_true, Bool.false_or, Bool.or_false, Bool.not_true, Bool.not_false, Bool.and_self, Bool.or_self, bT, bF, ieq, ine, decide_eq_true_eq, decide_not,
    Nat.reduceEqDiff, Nat.reduceAdd, Nat.reduceSub, Nat.reduceMul, Nat.reduceLeDiff, Nat.reduceLT, Nat.zero_add, Nat.add_zero, Option.getD_some, Option.getD_none, Option.isSome_some, Option.isSome_none, reduceIte, reduceCtorEq, and_self, and_true, true_and, not_true_eq_false, not_false_eq_true, false_imp_iff, forall_const, imp_self,
    Int.reduceNeg, Int.reduceLT, Int.reduceLE, Int.reduceGT, Int.reduceGE, Int.reduceAdd, Int.reduceSub, Int.reduceMul, Int.reduceToNat, Int.reduceEq, ne_eq, eq_self, beq_self_eq_true]
      · simp only [fi12, Tryd.f12, an12, h1, h2, h3, h4, h5, h6, h7, h8, h9, h10, h11, w1, a1, a2, w3, w4, w5, w6, w8, w9, hsz, hs, dp, w7, hl2, h12, h14, h15, w2, T2, T3, T5, T25, T34, T65, e_seq, e_region, e_dyn, e_dynS, stepD, accs, accP, accW, simpleOp, isAl, isExt, List.flatten_cons, List.flatten_nil, e_block, e_cond, e_ret, e_skip, e_exit, e_plain, e_guard, e_nil, e_op, e_ifT, e_ifF, e_true, e_false, e_loop, e_l, e_top, e_seqN, e_seqE, e_seqR, e_blockN, e_blockR, e_blockE,
    e_finN, e_finX, e_finR, retV, resV, resL, outCL, outC, outL, outD, wantedV, opV, An.at_, prune, List.map_cons, List.map_nil, envOf, get, put, eval, ofV, nbeq, nble, binV, binV.aggV, unV, intV, eqOp, isConst, natV, optV, loadV, loadC, storeV, setC, St.at_, partV, indexAddrV, fieldAddrV, sliceV, sliceV.rowSl, sliceV.strSl, bounds, cutP,
    builtinV, lenV, maxL, maxV, St.elems, roomy, rowOf, rowS, isStr, esz, tdOf, convV, buildV, fillV, partsV, okParts, fillL, D.whole, D.demoteC, D.demote, demoteL, D.global, D.leaf, D.cells, TI.agg, TD.rowish, callOpV, CC, keepB, St.borrowL, St.borrow, D.isLsl, adoptR, adoptC, adoptCL, adoptL, adopt, upd,
    List.toArray, Array.toList, List.length_cons, List.length_nil, List.length_map, List.length_append, List.length_replicate, List.replicate_succ, List.replicate_zero, List.replicate_one, ← List.map_take, ← List.map_drop, List.drop_zero, List.take_succ_cons, List.take_zero, List.take_nil, List.drop_succ_cons, List.drop_nil, Nat.zero_le, Nat.le_refl, Nat.sub_zero, List.getElem?_cons_succ, List.getElem?_cons_zero, List.getElem?_nil, List.any_cons, List.any_nil, List.all_cons, List.all_nil, List.append_nil, List.nil_append, List.cons_append, List.set_cons_zero, List.set_cons_succ,
    cond_true, cond_false, decide_true, decide_false, Bool.true_and, Bool.and_true, Bool.false_and, Bool.and_false, Bool.true_or, Bool.or_true, Bool.false_or, Bool.or_false, Bool.not_true, Bool.not_false, Bool.and_self, Bool.or_self, bT, bF, ieq, ine, decide_eq_true_eq, decide_not,
    Nat.reduceEqDiff, Nat.reduceAdd, Nat.reduceSub, Nat.reduceMul, Nat.reduceLeDiff, Nat.reduceLT, Nat.zero_add, Nat.add_zero, Option.getD_some, Option.getD_none, Option.isSome_some, Option.isSome_none, reduceIte, reduceCtorEq, and_self, and_true, true_and, not_true_eq_false, not_false_eq_true, false_imp_iff, forall_const, imp_self,
    Int.reduceNeg, Int.reduceLT, Int.reduceLE, Int.reduceGT, Int.reduceGE, Int.reduceAdd, Int.reduceSub, Int.reduceMul, Int.reduceToNat, Int.reduceEq, ne_eq, eq_self, beq_self_eq_true]
    · have h15 : ¬ (v : Int) > 0 := by omega
      rcases hd with ⟨rfl, rfl⟩ | rfl
      · simp only [List.map_nil, List.append_nil] at a2 h2
        simp only [fi12, Tryd.f12, an12, h1, h2, h3, h4, h5, h6, h7, h8, h9, h10, h11, w1, a1, a2, w3, w4, w5, w6, w8, w9, hsz, hs, dp, w7, h15, T2, T3, T5, T25, T34, T65, e_seq, e_region, e_dyn, e_dynS, stepD, accs, accP, accW, simpleOp, isAl, isExt, List.flatten_cons, List.flatten_nil, e_block, e_cond, e_ret, e_skip, e_exit, e_plain, e_guard, e_nil, e_op, e_ifT, e_ifF, e_true, e_false, e_loop, e_l, e_top, e_seqN, e_seqE, e_seqR, e_blockN, e_blockR, e_blockE,
    e_finN, e_finX, e_finR, retV, resV, resL, outCL, outC, outL, outD, wantedV, opV, An.at_, prune, List.map_cons, List.map_nil, envOf, get, put, eval, ofV, nbeq, nble, binV, binV.aggV, unV, intV, eqOp, isConst, natV, optV, loadV, loadC, storeV, setC, St.at_, partV, indexAddrV, fieldAddrV, sliceV, sliceV.rowSl, sliceV.strSl, bounds, cutP,
    builtinV, lenV, maxL, maxV, St.elems, roomy, rowOf, rowS, isStr, esz, tdOf, convV, buildV, fillV, partsV, okParts, fillL, D.whole, D.demoteC, D.demote, demoteL, D.global, D.leaf, D.cells, TI.agg, TD.rowish, callOpV, CC, keepB, St.borrowL, St.borrow, D.isLsl, adoptR, adoptC, adoptCL, adoptL, adopt, upd,
    List.toArray, Array.toList, List.length_cons, List.length_nil, List.length_map, List.length_append, List.length_replicate, List.replicate_succ, List.replicate_zero, List.replicate_one, ← List.map_take, ← List.map_drop, List.drop_zero, List.take_succ_cons, List.take_zero, List.take_nil, List.drop_succ_cons, List.drop_nil, Nat.zero_le, Nat.le_refl, Nat.sub_zero, List.getElem?_cons_succ, List.getElem?_cons_zero, List.getElem?_nil, List.any_cons, List.any_nil, List.all_cons, List.all_nil, List.append_nil, List.nil_append, List.cons_append, List.set_cons_zero, List.set_cons_succ,
    cond_true, cond_false, decide_true, decide_false, Bool.true_and, Bool.and_true, Bool.false_and, Bool.and_false, Bool.true_or, Bool.or_true, Bool.false_or, Bool.or_false, Bool.not_true, Bool.not_false, Bool.and_self, Bool.or_self, bT, bF, ieq, ine, decide_eq_true_eq, decide_not,
    Nat.reduceEqDiff, Nat.reduceAdd, Nat.reduceSub, Nat.reduceMul, Nat.reduceLeDiff, Nat.reduceLT, Nat.zero_add, Nat.add_zero, Option.getD_some, Option.getD_none, Option.isSome_some, Option.isSome_none, reduceIte, reduceCtorEq, and_self, and_true, true_and, not_true_eq_false, not_false_eq_true, false_imp_iff, forall_const, imp_self,
    Int.reduceNeg, Int.reduceLT, Int.reduceLE, Int.reduceGT, Int.reduceGE, Int.reduceAdd, Int.reduceSub, Int.reduceMul, Int.reduceToNat, Int.reduceEq, ne_eq, eq_self, beq_self_eq_true]
      · simp only [fi12, Tryd.f12, an12, h1, h2, h3, h4, h5, h6, h7, h8, h9, h10, h11, w1, a1, a2, w3, w4, w5, w6, w8, w9, hsz, hs, dp, w7, hl2, h15, T2, T3, T5, T25, T34, T65, e_seq, e_region, e_dyn, e_dynS, stepD, accs, accP, accW, simpleOp, isAl, isExt, List.flatten_cons, List.flatten_nil, e_block, e_cond, e_ret, e_skip, e_exit, e_plain, e_guard, e_nil, e_op, e_ifT, e_ifF, e_true, e_false, e_loop, e_l, e_top, e_seqN, e_seqE, e_seqR, e_blockN, e_blockR, e_blockE,
    e_finN, e_finX, e_finR, retV, resV, resL, outCL, outC, outL, outD, wantedV, opV, An.at_, prune, List.map_cons, List.map_nil, envOf, get, put, eval, ofV, nbeq, nble, binV, binV.aggV, unV, intV, eqOp, isConst, natV, optV, loadV, loadC, storeV, setC, St.at_, partV, indexAddrV, fieldAddrV, sliceV, sliceV.rowSl, sliceV.strSl, bounds, cutP,
    builtinV, lenV, maxL, maxV, St.elems, roomy, rowOf, rowS, isStr, esz, tdOf, convV, buildV, fillV, partsV, okParts, fillL, D.whole, D.demoteC, D.demote, demoteL, D.global, D.leaf, D.cells, TI.agg, TD.rowish, callOpV, CC, keepB, St.borrowL, St.borrow, D.isLsl, adoptR, adoptC, adoptCL, adoptL, adopt, upd,
    List.toArray, Array.toList, List.length_cons, List.length_nil, List.length_map, List.length_append, List.length_replicate, List.replicate_succ, List.replicate_zero, List.replicate_one, ← List.map_take, ← List.map_drop, List.drop_zero, List.take_succ_cons, List.take_zero, List.take_nil, List.drop_succ_cons, List.drop_nil, Nat.zero_le, Nat.le_refl, Nat.sub_zero, List.getElem?_cons_succ, List.getElem?_cons_zero, List.getElem?_nil, List.any_cons, List.any_nil, List.all_cons, List.all_nil, List.append_nil, List.nil_append, List.cons_append, List.set_cons_zero, List.set_cons_succ,
    cond_true, cond_false, decide_true, decide_false, Bool.true_and, Bool.and_true, Bool.false_and, Bool.and_false, Bool.true_or, Bool.or_true, Bool.false_or, Bool.or_false, Bool.not_true, Bool.not_false, Bool.and_self, Bool.or_self, bT, bF, ieq, ine, decide_eq_true_eq, decide_not,
    Nat.reduceEqDiff, Nat.reduceAdd, Nat.reduceSub, Nat.reduceMul, Nat.reduceLeDiff, Nat.reduceLT, Nat.zero_add, Nat.add_zero, Option.getD_some, Option.getD_none, Option.isSome_some, Option.isSome_none, reduceIte, reduceCtorEq, and_self, and_true, true_and, not_true_eq_false, not_false_eq_true, false_imp_iff, forall_const, imp_self,
    Int.reduceNeg, Int.reduceLT, Int.reduceLE, Int.reduceGT, Int.reduceGE, Int.reduceAdd, Int.reduceSub, Int.reduceMul, Int.reduceToNat, Int.reduceEq, ne_eq, eq_self, beq_self_eq_true]
  · have hl2 : (l.length : Int) > 300 := by omega
    rcases hd with ⟨rfl, rfl⟩ | rfl
    · simp at hl
    · simp only [fi12, Tryd.f12, an12, hl2, hs, dp, T2, T3, T5, T25, T34, T65, e_seq, e_region, e_dyn, e_dynS, stepD, accs, accP, accW, simpleOp, isAl, isExt, List.flatten_cons, List.flatten_nil, e_block, e_cond, e_ret, e_skip, e_exit, e_plain, e_guard, e_nil, e_op, e_ifT, e_ifF, e_true, e_false, e_loop, e_l, e_top, e_seqN, e_seqE, e_seqR, e_blockN, e_blockR, e_blockE,
    e_finN, e_finX, e_finR, retV, resV, resL, outCL, outC, outL, outD, wantedV, opV, An.at_, prune, List.map_cons, List.map_nil, envOf, get, put, eval, ofV, nbeq, nble, binV, binV.aggV, unV, intV, eqOp, isConst, natV, optV, loadV, loadC, storeV, setC, St.at_, partV, indexAddrV, fieldAddrV, sliceV, sliceV.rowSl, sliceV.strSl, bounds, cutP,
    builtinV, lenV, maxL, maxV, appendV, St.elems, roomy, rowOf, rowS, isStr, esz, tdOf, convV, buildV, fillV, partsV, okParts, fillL, D.whole, D.demoteC, D.demote, demoteL, D.global, D.leaf, D.cells, TI.agg, TD.rowish, callOpV, CC, keepB, St.borrowL, St.borrow, D.isLsl, adoptR, adoptC, adoptCL, adoptL, adopt, upd,
    List.toArray, Array.toList, List.length_cons, List.length_nil, List.length_map, List.length_append, List.length_replicate, List.replicate_succ, List.replicate_zero, List.replicate_one, ← List.map_take, ← List.map_drop, List.drop_zero, List.take_succ_cons, List.take_zero, List.take_nil, List.drop_succ_cons, List.drop_nil, Nat.zero_le, Nat.le_refl, Nat.sub_zero, List.getElem?_cons_succ, List.getElem?_cons_zero, List.getElem?_nil, List.any_cons, List.any_nil, List.all_cons, List.all_nil, List.append_nil, List.nil_append, List.cons_append, List.set_cons_zero, List.set_cons_succ,
    cond_true, cond_false, decide_true, decide_false, Bool.true_and, Bool.and_true, Bool.false_and, Bool.and_false, Bool.true_or, Bool.or_true, Bool.false_or, Bool.or_false, Bool.not_true, Bool.not_false, Bool.and_self, Bool.or_self, bT, bF, ieq, ine, decide_eq_true_eq, decide_not,
    Nat.reduceEqDiff, Nat.reduceAdd, Nat.reduceSub, Nat.reduceMul, Nat.reduceLeDiff, Nat.reduceLT, Nat.zero_add, Nat.add_zero, Option.getD_some, Option.getD_none, Option.isSome_some, Option.isSome_none, reduceIte, reduceCtorEq, and_self, and_true, true_and, not_true_eq_false, not_false_eq_true, false_imp_iff, forall_const, imp_self,
    Int.reduceNeg, Int.reduceLT, Int.reduceLE, Int.reduceGT, Int.reduceGE, Int.reduceAdd, Int.reduceSub, Int.reduceMul, Int.reduceToNat, Int.reduceEq, ne_eq, eq_self, beq_self_eq_true]

end Go.Proofs.YtdmlojinmkcldaaDoor.V
