/-
Layer 2: whether the last four bytes are the sum.
-/
import Derived.Test.YtdmlojinmkcldaaDoorIC
namespace Go.Proofs.YtdmlojinmkcldaaDoor.V
open Go Go.RowKit
set_option linter.unusedSimpArgs false
set_option linter.unusedVariables false

/-! warren/crc.Is -/
def an43 : An := ⟨fun _ => .none, fun _ => false, fun _ => false, fun _ => .none⟩
noncomputable def fi43 : FI := ⟨1, 29, Tryd.f43.body.getD .skip, Tryd.f43.results.toList, an43⟩
theorem ok43 : FnOk Tryd.prog 43 fi43 := ⟨⟨Tryd.f43, Tryd.func43, by kernel_rfl, rfl, rfl, rfl⟩, by decide, by kernel_rfl⟩
/-! warren/warrenref02.Is -/
def an44 : An := ⟨fun _ => .none, fun _ => false, fun _ => false, fun _ => .none⟩
noncomputable def fi44 : FI := ⟨1, 58, Tryd.f44.body.getD .skip, Tryd.f44.results.toList, an44⟩
theorem ok44 : FnOk Tryd.prog 44 fi44 := ⟨⟨Tryd.f44, Tryd.func44, by kernel_rfl, rfl, rfl, rfl⟩, by decide, by kernel_rfl⟩
/-! warren/warrenlaw02.sure -/
def an37 : An := ⟨fun _ => .none, fun | 6 => true | 16 => true | 26 => true | 37 => true | _ => false, fun _ => false, fun _ => .none⟩
noncomputable def fi37 : FI := ⟨0, 46, Tryd.f37.body.getD .skip, Tryd.f37.results.toList, an37⟩
theorem ok37 : FnOk Tryd.prog 37 fi37 := ⟨⟨Tryd.f37, Tryd.func37, by kernel_rfl, rfl, rfl, rfl⟩, by decide, by kernel_rfl⟩

def be4 (a b c d : Nat) : Nat := ((a * 256 + b) * 256 + c) * 256 + d

def isL (l : List UInt8) : Bool := decide (4 ≤ l.length) && beN 0 (l.drop (l.length - 4)) == moreS 0 (l.take (l.length - 4))

theorem isL_four (x : List UInt8) (a b c d : UInt8) : isL (x ++ [a, b, c, d]) = (be4 a.toNat b.toNat c.toNat d.toNat == moreS 0 x) := by
  have h : (x ++ [a, b, c, d]).length - 4 = x.length := by simp
  unfold isL
  rw [h, List.drop_left, List.take_left]
  have h2 : decide (4 ≤ (x ++ [a, b, c, d]).length) = true := by simp
  rw [h2, Bool.true_and]
  simp [beN, be4]

theorem four_of {l : List UInt8} (h : 4 ≤ l.length) : ∃ x a b c d, l = x ++ [a, b, c, d] := by
  have h1 := List.take_append_drop (l.length - 4) l
  have h2 : (l.drop (l.length - 4)).length = 4 := by simp; omega
  generalize l.drop (l.length - 4) = r at h1 h2
  match r, h2 with
  | [a, b, c, d], _ => exact ⟨_, a, b, c, d, h1.symm⟩

structure Known02 (C : Callees) : Prop where
  sum : ∀ (d : D) (l : List UInt8) (B : Hp), ByD d l → l.length ≤ 1000000 → C 38 [d] B = some (.int .u32 (moreS 0 l : Nat), B)
  more : ∀ (s : Nat) (d : D) (l : List UInt8) (B : Hp), s < 4294967296 → ByD d l → l.length ≤ 1000000 → C 42 [.int .u32 s, d] B = some (.int .u32 (moreS s l : Nat), B)
  rmore : ∀ (s : Nat) (d : D) (l : List UInt8) (B : Hp), s < 4294967296 → ByD d l → l.length ≤ 1000000 → C 41 [.int .u32 s, d] B = some (.int .u32 (moreS s l : Nat), B)
  get : ∀ (d : D) (l : List UInt8) (B : Hp), ByD d l → C 61 [d] B = some (getID l, B)
  noughts : ∀ (s : Nat) (n : Int) (B : Hp), s < 4294967296 → C 39 [.int .u32 s, .int .i64 n] B = some (noughtsD s n, B)
  num : ∀ (n : Nat) (B : Hp), C 40 [errD n] B = some (.int .i64 n, B)

set_option maxRecDepth 10000 in
theorem run43 (C : Callees) (hk : Known02 C) (d : D) (l : List UInt8) (hd : ByD d l) (hl : l.length ≤ 1000000) (B : Hp) : runV T C fi43 [d] B = some (.bool (isL l), B) := by
  rw [e_run _ _ _ rfl]
  by_cases h4 : 4 ≤ l.length
  · obtain ⟨x, a, b, c, e, rfl⟩ := four_of h4
    rcases hd with ⟨rfl, h⟩ | ⟨p, rfl⟩
    · simp at h
    · have hx : (x ++ [a, b, c, e]).length = x.length + 4 := by simp
      rw [hx] at hl
      have w1 : IntKind.i64.wrap (((x.length + 4 : Nat) : Int) - 4) = x.length := by rw [wrapI (by omega) (by omega)]; omega
      have w2 : ¬ (x.length : Int) < 0 := by omega
      have w3 : (0 : Int) ≤ x.length := by omega
      have e1 : (x ++ [a, b, c, e]).drop x.length = [a, b, c, e] := List.drop_left
      have e2 : (x ++ [a, b, c, e]).take x.length = x := List.take_left
      have e3 : (x ++ [a, b, c, e]).take (x.length + 4) = x ++ [a, b, c, e] := List.take_of_length_le (by simp)
      have hb : be4 a.toNat b.toNat c.toNat e.toNat < 4294967296 := by
        have := a.toNat_lt; have := b.toNat_lt; have := c.toNat_lt; have := e.toNat_lt
        unfold be4; omega
      have h1 : ∀ p, C 61 [.vec 1 [byteD a, byteD b, byteD c, byteD e] p] B = some (.tuple [.int .u64 (be4 a.toNat b.toNat c.toNat e.toNat : Nat), .nili], B) := fun p => by
        have := hk.get _ [a, b, c, e] B (.inr ⟨p, rfl⟩)
        simp only [List.map_cons, List.map_nil] at this
        rw [this]
        simp [getID, beN, be4]
      have h2 : ∀ p, C 38 [.vec 1 (x.map byteD) p] B = some (.int .u32 (moreS 0 x : Nat), B) := fun p => hk.sum _ x B (.inr ⟨p, rfl⟩) (by omega)
      have h3 : IntKind.u32.wrap (be4 a.toNat b.toNat c.toNat e.toNat : Nat) = (be4 a.toNat b.toNat c.toNat e.toNat : Nat) := wrap_u32 (by omega) (by omega)
      have q1 : x.length ≤ x.length + 4 := by omega
      have q2 : x.length + 4 ≤ x.length + 4 := by omega
      have q3 : 0 ≤ x.length := by omega
      rw [isL_four]
      generalize be4 a.toNat b.toNat c.toNat e.toNat = u at h1 h3 ⊢
      generalize moreS 0 x = s at h2 ⊢
      have h5 : ((u : Int) == (s : Int)) = (u == s) := by
        rw [Bool.eq_iff_iff]; simp [Int.natCast_inj]
      simp only [fi43, Tryd.f43, an43, hx, w1, w2, w3, e1, e2, e3, h1, h2, h3, h5, q1, q2, q3, Int.toNat_natCast, T3, T5, T25, T34, T57, T65, e_seq, e_region, e_dyn, e_dynS, stepD, accs, accP, accW, simpleOp, isAl, isExt, flipD, D.fresh1, D.row, D.plain, D.plain.plainL, St.close, St.close1, St.borrow, thawV, D.plainU, List.flatten_cons, List.flatten_nil, e_block, e_cond, e_ret, e_skip, e_exit, e_plain, e_guard, e_nil, e_op, e_ifT, e_ifF, e_true, e_false, e_loop, e_l, e_top, e_seqN, e_seqE, e_seqR, e_blockN, e_blockR, e_blockE,
    e_finN, e_finX, e_finR, retV, resV, resL, outCL, outC, outL, outD, wantedV, opV, An.at_, prune, List.map_cons, List.map_nil, envOf, get, put, eval, ofV, nbeq, nble, binV, binV.aggV, unV, intV, eqOp, isConst, natV, optV, loadV, loadC, storeV, setC, St.at_, partV, indexAddrV, fieldAddrV, sliceV, sliceV.rowSl, sliceV.strSl, bounds, cutP,
    builtinV, lenV, maxL, maxV, appendV, St.elems, roomy, rowOf, rowS, isStr, esz, tdOf, convV, buildV, fillV, partsV, okParts, fillL, D.whole, D.demoteC, D.demote, demoteL, D.global, D.leaf, D.cells, TI.agg, TD.rowish, callOpV, CC, keepB, St.borrowL, St.borrow, D.isLsl, adoptR, adoptC, adoptCL, adoptL, adopt, upd,
    List.toArray, Array.toList, List.length_cons, List.length_nil, List.length_map, List.length_append, List.length_replicate, List.replicate_succ, List.replicate_zero, List.replicate_one, ← List.map_take, ← List.map_drop, List.drop_zero, List.take_succ_cons, List.take_zero, List.take_nil, List.drop_succ_cons, List.drop_nil, Nat.zero_le, Nat.le_refl, Nat.sub_zero, List.getElem?_cons_succ, List.getElem?_cons_zero, List.getElem?_nil, List.any_cons, List.any_nil, List.all_cons, List.all_nil, List.append_nil, List.nil_append, List.cons_append, List.set_cons_zero, List.set_cons_succ,
    cond_true, cond_false, decide_true, decide_false, Bool.true_and, Bool.and_true, Bool.false_and, Bool.and_false, Bool.true_or, Bool.or_true, Bool.false_or, Bool.or_false, Bool.not_true, Bool.not_false, Bool.and_self, Bool.or_self, bT, bF, ieq, ine, decide_eq_true_eq, decide_not,
    Nat.reduceEqDiff, Nat.reduceAdd, Nat.reduceSub, Nat.reduceMul, Nat.reduceLeDiff, Nat.reduceLT, Nat.zero_add, Nat.add_zero, Option.getD_some, Option.getD_none, Option.isSome_some, Option.isSome_none, reduceIte, reduceCtorEq, and_self, and_true, true_and, not_true_eq_false, not_false_eq_true, false_imp_iff, forall_const, imp_self,
    Int.reduceNeg, Int.reduceLT, Int.reduceLE, Int.reduceGT, Int.reduceGE, Int.reduceAdd, Int.reduceSub, Int.reduceMul, Int.reduceToNat, Int.reduceEq, ne_eq, eq_self, beq_self_eq_true]
  · have hb : isL l = false := by simp [isL, h4]
    have w1 : IntKind.i64.wrap ((l.length : Int) - 4) = (l.length : Int) - 4 := wrapI (by omega) (by omega)
    have w2 : (l.length : Int) - 4 < 0 := by omega
    rw [hb]
    rcases hd with ⟨rfl, h⟩ | ⟨p, rfl⟩
    · have w3 : IntKind.i64.wrap (((0 : Nat) : Int) - 4) = -4 := rfl
      simp only [fi43, Tryd.f43, an43, w3, T3, T5, T25, T34, T57, T65, e_seq, e_region, e_dyn, e_dynS, stepD, accs, accP, accW, simpleOp, isAl, isExt, flipD, D.fresh1, D.row, D.plain, D.plain.plainL, St.close, St.close1, St.borrow, thawV, D.plainU, List.flatten_cons, List.flatten_nil, e_block, e_cond, e_ret, e_skip, e_exit, e_plain, e_guard, e_nil, e_op, e_ifT, e_ifF, e_true, e_false, e_loop, e_l, e_top, e_seqN, e_seqE, e_seqR, e_blockN, e_blockR, e_blockE,
    e_finN, e_finX, e_finR, retV, resV, resL, outCL, outC, outL, outD, wantedV, opV, An.at_, prune, List.map_cons, List.map_nil, envOf, get, put, eval, ofV, nbeq, nble, binV, binV.aggV, unV, intV, eqOp, isConst, natV, optV, loadV, loadC, storeV, setC, St.at_, partV, indexAddrV, fieldAddrV, sliceV, sliceV.rowSl, sliceV.strSl, bounds, cutP,
    builtinV, lenV, maxL, maxV, appendV, St.elems, roomy, rowOf, rowS, isStr, esz, tdOf, convV, buildV, fillV, partsV, okParts, fillL, D.whole, D.demoteC, D.demote, demoteL, D.global, D.leaf, D.cells, TI.agg, TD.rowish, callOpV, CC, keepB, St.borrowL, St.borrow, D.isLsl, adoptR, adoptC, adoptCL, adoptL, adopt, upd,
    List.toArray, Array.toList, List.length_cons, List.length_nil, List.length_map, List.length_append, List.length_replicate, List.replicate_succ, List.replicate_zero, List.replicate_one, ← List.map_take, ← List.map_drop, List.drop_zero, List.take_succ_cons, List.take_zero, List.take_nil, List.drop_succ_cons, List.drop_nil, Nat.zero_le, Nat.le_refl, Nat.sub_zero, List.getElem?_cons_succ, List.getElem?_cons_zero, List.getElem?_nil, List.any_cons, List.any_nil, List.all_cons, List.all_nil, List.append_nil, List.nil_append, List.cons_append, List.set_cons_zero, List.set_cons_succ,
    cond_true, cond_false, decide_true, decide_false, Bool.true_and, Bool.and_true, Bool.false_and, Bool.and_false, Bool.true_or, Bool.or_true, Bool.false_or, Bool.or_false, Bool.not_true, Bool.not_false, Bool.and_self, Bool.or_self, bT, bF, ieq, ine, decide_eq_true_eq, decide_not,
    Nat.reduceEqDiff, Nat.reduceAdd, Nat.reduceSub, Nat.reduceMul, Nat.reduceLeDiff, Nat.reduceLT, Nat.zero_add, Nat.add_zero, Option.getD_some, Option.getD_none, Option.isSome_some, Option.isSome_none, reduceIte, reduceCtorEq, and_self, and_true, true_and, not_true_eq_false, not_false_eq_true, false_imp_iff, forall_const, imp_self,
    Int.reduceNeg, Int.reduceLT, Int.reduceLE, Int.reduceGT, Int.reduceGE, Int.reduceAdd, Int.reduceSub, Int.reduceMul, Int.reduceToNat, Int.reduceEq, ne_eq, eq_self, beq_self_eq_true]
    · simp only [fi43, Tryd.f43, an43, w1, w2, T3, T5, T25, T34, T57, T65, e_seq, e_region, e_dyn, e_dynS, stepD, accs, accP, accW, simpleOp, isAl, isExt, flipD, D.fresh1, D.row, D.plain, D.plain.plainL, St.close, St.close1, St.borrow, thawV, D.plainU, List.flatten_cons, List.flatten_nil, e_block, e_cond, e_ret, e_skip, e_exit, e_plain, e_guard, e_nil, e_op, e_ifT, e_ifF, e_true, e_false, e_loop, e_l, e_top, e_seqN, e_seqE, e_seqR, e_blockN, e_blockR, e_blockE,
    e_finN, e_finX, e_finR, retV, resV, resL, outCL, outC, outL, outD, wantedV, opV, An.at_, prune, List.map_cons, List.map_nil, envOf, get, put, eval, ofV, nbeq, nble, binV, binV.aggV, unV, intV, eqOp, isConst, natV, optV, loadV, loadC, storeV, setC, St.at_, partV, indexAddrV, fieldAddrV, sliceV, sliceV.rowSl, sliceV.strSl, bounds, cutP,
    builtinV, lenV, maxL, maxV, appendV, St.elems, roomy, rowOf, rowS, isStr, esz, tdOf, convV, buildV, fillV, partsV, okParts, fillL, D.whole, D.demoteC, D.demote, demoteL, D.global, D.leaf, D.cells, TI.agg, TD.rowish, callOpV, CC, keepB, St.borrowL, St.borrow, D.isLsl, adoptR, adoptC, adoptCL, adoptL, adopt, upd,
    List.toArray, Array.toList, List.length_cons, List.length_nil, List.length_map, List.length_append, List.length_replicate, List.replicate_succ, List.replicate_zero, List.replicate_one, ← List.map_take, ← List.map_drop, List.drop_zero, List.take_succ_cons, List.take_zero, List.take_nil, List.drop_succ_cons, List.drop_nil, Nat.zero_le, Nat.le_refl, Nat.sub_zero, List.getElem?_cons_succ, List.getElem?_cons_zero, List.getElem?_nil, List.any_cons, List.any_nil, List.all_cons, List.all_nil, List.append_nil, List.nil_append, List.cons_append, List.set_cons_zero, List.set_cons_succ,
    cond_true, cond_false, decide_true, decide_false, Bool.true_and, Bool.and_true, Bool.false_and, Bool.and_false, Bool.true_or, Bool.or_true, Bool.false_or, Bool.or_false, Bool.not_true, Bool.not_false, Bool.and_self, Bool.or_self, bT, bF, ieq, ine, decide_eq_true_eq, decide_not,
    Nat.reduceEqDiff, Nat.reduceAdd, Nat.reduceSub, Nat.reduceMul, Nat.reduceLeDiff, Nat.reduceLT, Nat.zero_add, Nat.add_zero, Option.getD_some, Option.getD_none, Option.isSome_some, Option.isSome_none, reduceIte, reduceCtorEq, and_self, and_true, true_and, not_true_eq_false, not_false_eq_true, false_imp_iff, forall_const, imp_self,
    Int.reduceNeg, Int.reduceLT, Int.reduceLE, Int.reduceGT, Int.reduceGE, Int.reduceAdd, Int.reduceSub, Int.reduceMul, Int.reduceToNat, Int.reduceEq, ne_eq, eq_self, beq_self_eq_true]

theorem be4_iff {a b c d s : Nat} (ha : a < 256) (hb : b < 256) (hc : c < 256) (hd : d < 256) (hs : s < 4294967296) : be4 a b c d = s ↔ a = s / 16777216 ∧ b = s / 65536 % 256 ∧ c = s / 256 % 256 ∧ d = s % 256 := by
  unfold be4; omega

set_option maxRecDepth 10000 in
set_option maxHeartbeats 1000000 in
theorem run44 (C : Callees) (hk : Known02 C) (d : D) (l : List UInt8) (hd : ByD d l) (hl : l.length ≤ 1000000) (B : Hp) : runV T C fi44 [d] B = some (.bool (isL l), B) := by
  rw [e_run _ _ _ rfl]
  by_cases h4 : 4 ≤ l.length
  · obtain ⟨x, a, b, c, e, rfl⟩ := four_of h4
    rcases hd with ⟨rfl, h⟩ | ⟨p, rfl⟩
    · simp at h
    · have hx : (x ++ [a, b, c, e]).length = x.length + 4 := by simp
      rw [hx] at hl
      have w0 : ¬ ((x.length + 4 : Nat) : Int) < 4 := by omega
      have w1 : IntKind.i64.wrap (((x.length + 4 : Nat) : Int) - 4) = x.length := by rw [wrapI (by omega) (by omega)]; omega
      have w2 : ¬ (x.length : Int) < 0 := by omega
      have w3 : (0 : Int) ≤ x.length := by omega
      have w4 : IntKind.i64.wrap ((x.length : Int) + 1) = ((x.length + 1 : Nat) : Int) := by rw [wrapI (by omega) (by omega)]; omega
      have w5 : IntKind.i64.wrap ((x.length : Int) + 2) = ((x.length + 2 : Nat) : Int) := by rw [wrapI (by omega) (by omega)]; omega
      have w6 : IntKind.i64.wrap ((x.length : Int) + 3) = ((x.length + 3 : Nat) : Int) := by rw [wrapI (by omega) (by omega)]; omega
      have w7 : (0 : Int) ≤ ((x.length + 1 : Nat) : Int) := by omega
      have w8 : (0 : Int) ≤ ((x.length + 2 : Nat) : Int) := by omega
      have w9 : (0 : Int) ≤ ((x.length + 3 : Nat) : Int) := by omega
      have e1 : (x ++ [a, b, c, e])[x.length]? = some a := by simp
      have e2 : (x ++ [a, b, c, e])[x.length + 1]? = some b := by simp
      have e3 : (x ++ [a, b, c, e])[x.length + 2]? = some c := by simp
      have e4 : (x ++ [a, b, c, e])[x.length + 3]? = some e := by simp
      have e5 : (x ++ [a, b, c, e]).take x.length = x := List.take_left
      have q1 : x.length ≤ x.length + 4 := by omega
      have q2 : x.length + 4 ≤ x.length + 4 := by omega
      have q3 : 0 ≤ x.length := by omega
      have h2 : ∀ p, C 41 [.int .u32 0, .vec 1 (x.map byteD) p] B = some (.int .u32 (moreS 0 x : Nat), B) := fun p => hk.rmore 0 _ x B (by omega) (.inr ⟨p, rfl⟩) (by omega)
      rw [isL_four]
      have hs := more_lt 0 x
      generalize moreS 0 x = s at h2 hs ⊢
      have ha := a.toNat_lt; have hb := b.toNat_lt; have hc := c.toNat_lt; have he := e.toNat_lt
      have d1 : IntKind.u8.wrap (IntKind.u32.wrap ((s : Int).tdiv 16777216)) = ((s / 16777216 : Nat) : Int) := by rw [Int.tdiv_eq_ediv_of_nonneg (by omega), wrap_u32 (by omega) (by omega), wrap_u8 (by omega) (by omega)]; omega
      have d2 : IntKind.u8.wrap ((IntKind.u32.wrap ((s : Int).tdiv 65536)).tmod 256) = ((s / 65536 % 256 : Nat) : Int) := by rw [Int.tdiv_eq_ediv_of_nonneg (by omega), wrap_u32 (by omega) (by omega), Int.tmod_eq_emod_of_nonneg (by omega), wrap_u8 (by omega) (by omega)]; omega
      have d3 : IntKind.u8.wrap ((IntKind.u32.wrap ((s : Int).tdiv 256)).tmod 256) = ((s / 256 % 256 : Nat) : Int) := by rw [Int.tdiv_eq_ediv_of_nonneg (by omega), wrap_u32 (by omega) (by omega), Int.tmod_eq_emod_of_nonneg (by omega), wrap_u8 (by omega) (by omega)]; omega
      have d4 : IntKind.u8.wrap ((s : Int).tmod 256) = ((s % 256 : Nat) : Int) := by rw [Int.tmod_eq_emod_of_nonneg (by omega), wrap_u8 (by omega) (by omega)]; omega
      have hbe := be4_iff ha hb hc he hs
      have hres : (be4 a.toNat b.toNat c.toNat e.toNat == s) = decide (a.toNat = s / 16777216 ∧ b.toNat = s / 65536 % 256 ∧ c.toNat = s / 256 % 256 ∧ e.toNat = s % 256) := by
        rw [Bool.eq_iff_iff]; simp [hbe]
      rw [hres]
      clear hres hbe
      by_cases k1 : a.toNat = s / 16777216
      · have j1 : ((a.toNat : Nat) : Int) = ((s / 16777216 : Nat) : Int) := by rw [k1]
        by_cases k2 : b.toNat = s / 65536 % 256
        · have j2 : ((b.toNat : Nat) : Int) = ((s / 65536 % 256 : Nat) : Int) := by rw [k2]
          by_cases k3 : c.toNat = s / 256 % 256
          · have j3 : ((c.toNat : Nat) : Int) = ((s / 256 % 256 : Nat) : Int) := by rw [k3]
            by_cases k4 : e.toNat = s % 256
            · have j4 : ((e.toNat : Nat) : Int) = ((s % 256 : Nat) : Int) := by rw [k4]
              rw [decide_eq_true (⟨k1, k2, k3, k4⟩ : _ ∧ _)]
              simp only [fi44, Tryd.f44, an44, hx, w0, w1, w2, w3, w4, w5, w6, w7, w8, w9, e1, e2, e3, e4, e5, h2, q1, q2, q3, d1, d2, d3, d4, j1, j2, j3, j4, List.getElem?_map, Option.map_some, byteD, Int.toNat_natCast, T3, T5, T34, T57, e_seq, e_region, e_dyn, e_dynS, stepD, accs, accP, accW, simpleOp, isAl, isExt, flipD, D.fresh1, D.row, D.plain, D.plain.plainL, St.close, St.close1, St.borrow, thawV, D.plainU, List.flatten_cons, List.flatten_nil, e_block, e_cond, e_ret, e_skip, e_exit, e_plain, e_guard, e_nil, e_op, e_ifT, e_ifF, e_true, e_false, e_loop, e_l, e_top, e_seqN, e_seqE, e_seqR, e_blockN, e_blockR, e_blockE,
    e_finN, e_finX, e_finR, retV, resV, resL, outCL, outC, outL, outD, wantedV, opV, An.at_, prune, List.map_cons, List.map_nil, envOf, get, put, eval, ofV, nbeq, nble, binV, binV.aggV, unV, intV, eqOp, isConst, natV, optV, loadV, loadC, storeV, setC, St.at_, partV, indexAddrV, fieldAddrV, sliceV, sliceV.rowSl, sliceV.strSl, bounds, cutP,
    builtinV, lenV, maxL, maxV, appendV, St.elems, roomy, rowOf, rowS, isStr, esz, tdOf, convV, buildV, fillV, partsV, okParts, fillL, D.whole, D.demoteC, D.demote, demoteL, D.global, D.leaf, D.cells, TI.agg, TD.rowish, callOpV, CC, keepB, St.borrowL, St.borrow, D.isLsl, adoptR, adoptC, adoptCL, adoptL, adopt, upd,
    List.toArray, Array.toList, List.length_cons, List.length_nil, List.length_map, List.length_append, List.length_replicate, List.replicate_succ, List.replicate_zero, List.replicate_one, ← List.map_take, ← List.map_drop, List.drop_zero, List.take_succ_cons, List.take_zero, List.take_nil, List.drop_succ_cons, List.drop_nil, Nat.zero_le, Nat.le_refl, Nat.sub_zero, List.getElem?_cons_succ, List.getElem?_cons_zero, List.getElem?_nil, List.any_cons, List.any_nil, List.all_cons, List.all_nil, List.append_nil, List.nil_append, List.cons_append, List.set_cons_zero, List.set_cons_succ,
    cond_true, cond_false, decide_true, decide_false, Bool.true_and, Bool.and_true, Bool.false_and, Bool.and_false, Bool.true_or, Bool.or_true, Bool.false_or, Bool.or_false, Bool.not_true, Bool.not_false, Bool.and_self, Bool.or_self, bT, bF, ieq, ine, decide_eq_true_eq, decide_not,
    Nat.reduceEqDiff, Nat.reduceAdd, Nat.reduceSub, Nat.reduceMul, Nat.reduceLeDiff, Nat.reduceLT, Nat.zero_add, Nat.add_zero, Option.getD_some, Option.getD_none, Option.isSome_some, Option.isSome_none, reduceIte, reduceCtorEq, and_self, and_true, true_and, not_true_eq_false, not_false_eq_true, false_imp_iff, forall_const, imp_self,
    Int.reduceNeg, Int.reduceLT, Int.reduceLE, Int.reduceGT, Int.reduceGE, Int.reduceAdd, Int.reduceSub, Int.reduceMul, Int.reduceToNat, Int.reduceEq, ne_eq, eq_self, beq_self_eq_true]
            · have j4 : ¬ ((e.toNat : Nat) : Int) = ((s % 256 : Nat) : Int) := by omega
              rw [decide_eq_false (fun h => k4 h.2.2.2 : ¬ (_ ∧ _))]
              simp only [fi44, Tryd.f44, an44, hx, w0, w1, w2, w3, w4, w5, w6, w7, w8, w9, e1, e2, e3, e4, e5, h2, q1, q2, q3, d1, d2, d3, d4, j1, j2, j3, j4, List.getElem?_map, Option.map_some, byteD, Int.toNat_natCast, T3, T5, T34, T57, e_seq, e_region, e_dyn, e_dynS, stepD, accs, accP, accW, simpleOp, isAl, isExt, flipD, D.fresh1, D.row, D.plain, D.plain.plainL, St.close, St.close1, St.borrow, thawV, D.plainU, List.flatten_cons, List.flatten_nil, e_block, e_cond, e_ret, e_skip, e_exit, e_plain, e_guard, e_nil, e_op, e_ifT, e_ifF, e_true, e_false, e_loop, e_l, e_top, e_seqN, e_seqE, e_seqR, e_blockN, e_blockR, e_blockE,
    e_finN, e_finX, e_finR, retV, resV, resL, outCL, outC, outL, outD, wantedV, opV, An.at_, prune, List.map_cons, List.map_nil, envOf, get, put, eval, ofV, nbeq, nble, binV, binV.aggV, unV, intV, eqOp, isConst, natV, optV, loadV, loadC, storeV, setC, St.at_, partV, indexAddrV, fieldAddrV, sliceV, sliceV.rowSl, sliceV.strSl, bounds, cutP,
    builtinV, lenV, maxL, maxV, appendV, St.elems, roomy, rowOf, rowS, isStr, esz, tdOf, convV, buildV, fillV, partsV, okParts, fillL, D.whole, D.demoteC, D.demote, demoteL, D.global, D.leaf, D.cells, TI.agg, TD.rowish, callOpV, CC, keepB, St.borrowL, St.borrow, D.isLsl, adoptR, adoptC, adoptCL, adoptL, adopt, upd,
    List.toArray, Array.toList, List.length_cons, List.length_nil, List.length_map, List.length_append, List.length_replicate, List.replicate_succ, List.replicate_zero, List.replicate_one, ← List.map_take, ← List.map_drop, List.drop_zero, List.take_succ_cons, List.take_zero, List.take_nil, List.drop_succ_cons, List.drop_nil, Nat.zero_le, Nat.le_refl, Nat.sub_zero, List.getElem?_cons_succ, List.getElem?_cons_zero, List.getElem?_nil, List.any_cons, List.any_nil, List.all_cons, List.all_nil, List.append_nil, List.nil_append, List.cons_append, List.set_cons_zero, List.set_cons_succ,
    cond_true, cond_false, decide_true, decide_false, Bool.true_and, Bool.and_true, Bool.false_and, Bool.and_false, Bool.true_or, Bool.or_true, Bool.false_or, Bool.or_false, Bool.not_true, Bool.not_false, Bool.and_self, Bool.or_self, bT, bF, ieq, ine, decide_eq_true_eq, decide_not,
    Nat.reduceEqDiff, Nat.reduceAdd, Nat.reduceSub, Nat.reduceMul, Nat.reduceLeDiff, Nat.reduceLT, Nat.zero_add, Nat.add_zero, Option.getD_some, Option.getD_none, Option.isSome_some, Option.isSome_none, reduceIte, reduceCtorEq, and_self, and_true, true_and, not_true_eq_false, not_false_eq_true, false_imp_iff, forall_const, imp_self,
    Int.reduceNeg, Int.reduceLT, Int.reduceLE, Int.reduceGT, Int.reduceGE, Int.reduceAdd, Int.reduceSub, Int.reduceMul, Int.reduceToNat, Int.reduceEq, ne_eq, eq_self, beq_self_eq_true]
          · have j3 : ¬ ((c.toNat : Nat) : Int) = ((s / 256 % 256 : Nat) : Int) := by omega
            rw [decide_eq_false (fun h => k3 h.2.2.1 : ¬ (_ ∧ _))]
            simp only [fi44, Tryd.f44, an44, hx, w0, w1, w2, w3, w4, w5, w6, w7, w8, w9, e1, e2, e3, e4, e5, h2, q1, q2, q3, d1, d2, d3, d4, j1, j2, j3, List.getElem?_map, Option.map_some, byteD, Int.toNat_natCast, T3, T5, T34, T57, e_seq, e_region, e_dyn, e_dynS, stepD, accs, accP, accW, simpleOp, isAl, isExt, flipD, D.fresh1, D.row, D.plain, D.plain.plainL, St.close, St.close1, St.borrow, thawV, D.plainU, List.flatten_cons, List.flatten_nil, e_block, e_cond, e_ret, e_skip, e_exit, e_plain, e_guard, e_nil, e_op, e_ifT, e_ifF, e_true, e_false, e_loop, e_l, e_top, e_seqN, e_seqE, e_seqR, e_blockN, e_blockR, e_blockE,
    e_finN, e_finX, e_finR, retV, resV, resL, outCL, outC, outL, outD, wantedV, opV, An.at_, prune, List.map_cons, List.map_nil, envOf, get, put, eval, ofV, nbeq, nble, binV, binV.aggV, unV, intV, eqOp, isConst, natV, optV, loadV, loadC, storeV, setC, St.at_, partV, indexAddrV, fieldAddrV, sliceV, sliceV.rowSl, sliceV.strSl, bounds, cutP,
    builtinV, lenV, maxL, maxV, appendV, St.elems, roomy, rowOf, rowS, isStr, esz, tdOf, convV, buildV, fillV, partsV, okParts, fillL, D.whole, D.demoteC, D.demote, demoteL, D.global, D.leaf, D.cells, TI.agg, TD.rowish, callOpV, CC, keepB, St.borrowL, St.borrow, D.isLsl, adoptR, adoptC, adoptCL, adoptL, adopt, upd,
    List.toArray, Array.toList, List.length_cons, List.length_nil, List.length_map, List.length_append, List.length_replicate, List.replicate_succ, List.replicate_zero, List.replicate_one, ← List.map_take, ← List.map_drop, List.drop_zero, List.take_succ_cons, List.take_zero, List.take_nil, List.drop_succ_cons, List.drop_nil, Nat.zero_le, Nat.le_refl, Nat.sub_zero, List.getElem?_cons_succ, List.getElem?_cons_zero, List.getElem?_nil, List.any_cons, List.any_nil, List.all_cons, List.all_nil, List.append_nil, List.nil_append, List.cons_append, List.set_cons_zero, List.set_cons_succ,
    cond_true, cond_false, decide_true, decide_false, Bool.true_and, Bool.and_true, Bool.false_and, Bool.and_false, Bool.true_or, Bool.or_true, Bool.false_or, Bool.or_false, Bool.not_true, Bool.not_false, Bool.and_self, Bool.or_self, bT, bF, ieq, ine, decide_eq_true_eq, decide_not,
    Nat.reduceEqDiff, Nat.reduceAdd, Nat.reduceSub, Nat.reduceMul, Nat.reduceLeDiff, Nat.reduceLT, Nat.zero_add, Nat.add_zero, Option.getD_some, Option.getD_none, Option.isSome_some, Option.isSome_none, reduceIte, reduceCtorEq, and_self, and_true, true_and, not_true_eq_false, not_false_eq_true, false_imp_iff, forall_const, imp_self,
    Int.reduceNeg, Int.reduceLT, Int.reduceLE, Int.reduceGT, Int.reduceGE, Int.reduceAdd, Int.reduceSub, Int.reduceMul, Int.reduceToNat, Int.reduceEq, ne_eq, eq_self, beq_self_eq_true]
        · have j2 : ¬ ((b.toNat : Nat) : Int) = ((s / 65536 % 256 : Nat) : Int) := by omega
          rw [decide_eq_false (fun h => k2 h.2.1 : ¬ (_ ∧ _))]
          simp only [fi44, Tryd.f44, an44, hx, w0, w1, w2, w3, w4, w5, w6, w7, w8, w9, e1, e2, e3, e4, e5, h2, q1, q2, q3, d1, d2, d3, d4, j1, j2, List.getElem?_map, Option.map_some, byteD, Int.toNat_natCast, T3, T5, T34, T57, e_seq, e_region, e_dyn, e_dynS, stepD, accs, accP, accW, simpleOp, isAl, isExt, flipD, D.fresh1, D.row, D.plain, D.plain.plainL, St.close, St.close1, St.borrow, thawV, D.plainU, List.flatten_cons, List.flatten_nil, e_block, e_cond, e_ret, e_skip, e_exit, e_plain, e_guard, e_nil, e_op, e_ifT, e_ifF, e_true, e_false, e_loop, e_l, e_top, e_seqN, e_seqE, e_seqR, e_blockN, e_blockR, e_blockE,
    e_finN, e_finX, e_finR, retV, resV, resL, outCL, outC, outL, outD, wantedV, opV, An.at_, prune, List.map_cons, List.map_nil, envOf, get, put, eval, ofV, nbeq, nble, binV, binV.aggV, unV, intV, eqOp, isConst, natV, optV, loadV, loadC, storeV, setC, St.at_, partV, indexAddrV, fieldAddrV, sliceV, sliceV.rowSl, sliceV.strSl, bounds, cutP,
    builtinV, lenV, maxL, maxV, appendV, St.elems, roomy, rowOf, rowS, isStr, esz, tdOf, convV, buildV, fillV, partsV, okParts, fillL, D.whole, D.demoteC, D.demote, demoteL, D.global, D.leaf, D.cells, TI.agg, TD.rowish, callOpV, CC, keepB, St.borrowL, St.borrow, D.isLsl, adoptR, adoptC, adoptCL, adoptL, adopt, upd,
    List.toArray, Array.toList, List.length_cons, List.length_nil, List.length_map, List.length_append, List.length_replicate, List.replicate_succ, List.replicate_zero, List.replicate_one, ← List.map_take, ← List.map_drop, List.drop_zero, List.take_succ_cons, List.take_zero, List.take_nil, List.drop_succ_cons, List.drop_nil, Nat.zero_le, Nat.le_refl, Nat.sub_zero, List.getElem?_cons_succ, List.getElem?_cons_zero, List.getElem?_nil, List.any_cons, List.any_nil, List.all_cons, List.all_nil, List.append_nil, List.nil_append, List.cons_append, List.set_cons_zero, List.set_cons_succ,
    cond_true, cond_false, decide_true, decide_false, Bool.true_and, Bool.and_true, Bool.false_and, Bool.and_false, Bool.true_or, Bool.or_true, Bool.false_or, Bool.or_false, Bool.not_true, Bool.not_false, Bool.and_self, Bool.or_self, bT, bF, ieq, ine, decide_eq_true_eq, decide_not,
    Nat.reduceEqDiff, Nat.reduceAdd, Nat.reduceSub, Nat.reduceMul, Nat.reduceLeDiff, Nat.reduceLT, Nat.zero_add, Nat.add_zero, Option.getD_some, Option.getD_none, Option.isSome_some, Option.isSome_none, reduceIte, reduceCtorEq, and_self, and_true, true_and, not_true_eq_false, not_false_eq_true, false_imp_iff, forall_const, imp_self,
    Int.reduceNeg, Int.reduceLT, Int.reduceLE, Int.reduceGT, Int.reduceGE, Int.reduceAdd, Int.reduceSub, Int.reduceMul, Int.reduceToNat, Int.reduceEq, ne_eq, eq_self, beq_self_eq_true]
      · have j1 : ¬ ((a.toNat : Nat) : Int) = ((s / 16777216 : Nat) : Int) := by omega
        rw [decide_eq_false (fun h => k1 h.1 : ¬ (_ ∧ _))]
        simp only [fi44, Tryd.f44, an44, hx, w0, w1, w2, w3, w4, w5, w6, w7, w8, w9, e1, e2, e3, e4, e5, h2, q1, q2, q3, d1, d2, d3, d4, j1, List.getElem?_map, Option.map_some, byteD, Int.toNat_natCast, T3, T5, T34, T57, e_seq, e_region, e_dyn, e_dynS, stepD, accs, accP, accW, simpleOp, isAl, isExt, flipD, D.fresh1, D.row, D.plain, D.plain.plainL, St.close, St.close1, St.borrow, thawV, D.plainU, List.flatten_cons, List.flatten_nil, e_block, e_cond, e_ret, e_skip, e_exit, e_plain, e_guard, e_nil, e_op, e_ifT, e_ifF, e_true, e_false, e_loop, e_l, e_top, e_seqN, e_seqE, e_seqR, e_blockN, e_blockR, e_blockE,
    e_finN, e_finX, e_finR, retV, resV, resL, outCL, outC, outL, outD, wantedV, opV, An.at_, prune, List.map_cons, List.map_nil, envOf, get, put, eval, ofV, nbeq, nble, binV, binV.aggV, unV, intV, eqOp, isConst, natV, optV, loadV, loadC, storeV, setC, St.at_, partV, indexAddrV, fieldAddrV, sliceV, sliceV.rowSl, sliceV.strSl, bounds, cutP,
    builtinV, lenV, maxL, maxV, appendV, St.elems, roomy, rowOf, rowS, isStr, esz, tdOf, convV, buildV, fillV, partsV, okParts, fillL, D.whole, D.demoteC, D.demote, demoteL, D.global, D.leaf, D.cells, TI.agg, TD.rowish, callOpV, CC, keepB, St.borrowL, St.borrow, D.isLsl, adoptR, adoptC, adoptCL, adoptL, adopt, upd,
    List.toArray, Array.toList, List.length_cons, List.length_nil, List.length_map, List.length_append, List.length_replicate, List.replicate_succ, List.replicate_zero, List.replicate_one, ← List.map_take, ← List.map_drop, List.drop_zero, List.take_succ_cons, List.take_zero, List.take_nil, List.drop_succ_cons, List.drop_nil, Nat.zero_le, Nat.le_refl, Nat.sub_zero, List.getElem?_cons_succ, List.getElem?_cons_zero, List.getElem?_nil, List.any_cons, List.any_nil, List.all_cons, List.all_nil, List.append_nil, List.nil_append, List.cons_append, List.set_cons_zero, List.set_cons_succ,
    cond_true, cond_false, decide_true, decide_false, Bool.true_and, Bool.and_true, Bool.false_and, Bool.and_false, Bool.true_or, Bool.or_true, Bool.false_or, Bool.or_false, Bool.not_true, Bool.not_false, Bool.and_self, Bool.or_self, bT, bF, ieq, ine, decide_eq_true_eq, decide_not,
    Nat.reduceEqDiff, Nat.reduceAdd, Nat.reduceSub, Nat.reduceMul, Nat.reduceLeDiff, Nat.reduceLT, Nat.zero_add, Nat.add_zero, Option.getD_some, Option.getD_none, Option.isSome_some, Option.isSome_none, reduceIte, reduceCtorEq, and_self, and_true, true_and, not_true_eq_false, not_false_eq_true, false_imp_iff, forall_const, imp_self,
    Int.reduceNeg, Int.reduceLT, Int.reduceLE, Int.reduceGT, Int.reduceGE, Int.reduceAdd, Int.reduceSub, Int.reduceMul, Int.reduceToNat, Int.reduceEq, ne_eq, eq_self, beq_self_eq_true]
  · have hb : isL l = false := by simp [isL, h4]
    rw [hb]
    rcases hd with ⟨rfl, h⟩ | ⟨p, rfl⟩
    · have w2 : ((0 : Nat) : Int) < 4 := by decide
      simp only [fi44, Tryd.f44, an44, w2, T3, T5, T34, T57, e_seq, e_region, e_dyn, e_dynS, stepD, accs, accP, accW, simpleOp, isAl, isExt, flipD, D.fresh1, D.row, D.plain, D.plain.plainL, St.close, St.close1, St.borrow, thawV, D.plainU, List.flatten_cons, List.flatten_nil, e_block, e_cond, e_ret, e_skip, e_exit, e_plain, e_guard, e_nil, e_op, e_ifT, e_ifF, e_true, e_false, e_loop, e_l, e_top, e_seqN, e_seqE, e_seqR, e_blockN, e_blockR, e_blockE,
    e_finN, e_finX, e_finR, retV, resV, resL, outCL, outC, outL, outD, wantedV, opV, An.at_, prune, List.map_cons, List.map_nil, envOf, get, put, eval, ofV, nbeq, nble, binV, binV.aggV, unV, intV, eqOp, isConst, natV, optV, loadV, loadC, storeV, setC, St.at_, partV, indexAddrV, fieldAddrV, sliceV, sliceV.rowSl, sliceV.strSl, bounds, cutP,
    builtinV, lenV, maxL, maxV, appendV, St.elems, roomy, rowOf, rowS, isStr, esz, tdOf, convV, buildV, fillV, partsV, okParts, fillL, D.whole, D.demoteC, D.demote, demoteL, D.global, D.leaf, D.cells, TI.agg, TD.rowish, callOpV, CC, keepB, St.borrowL, St.borrow, D.isLsl, adoptR, adoptC, adoptCL, adoptL, adopt, upd,
    List.toArray, Array.toList, List.length_cons, List.length_nil, List.length_map, List.length_append, List.length_replicate, List.replicate_succ, List.replicate_zero, List.replicate_one, ← List.map_take, ← List.map_drop, List.drop_zero, List.take_succ_cons, List.take_zero, List.take_nil, List.drop_succ_cons, List.drop_nil, Nat.zero_le, Nat.le_refl, Nat.sub_zero, List.getElem?_cons_succ, List.getElem?_cons_zero, List.getElem?_nil, List.any_cons, List.any_nil, List.all_cons, List.all_nil, List.append_nil, List.nil_append, List.cons_append, List.set_cons_zero, List.set_cons_succ,
    cond_true, cond_false, decide_true, decide_false, Bool.true_and, Bool.and_true, Bool.false_and, Bool.and_false, Bool.true_or, Bool.or_true, Bool.false_or, Bool.or_false, Bool.not_true, Bool.not_false, Bool.and_self, Bool.or_self, bT, bF, ieq, ine, decide_eq_true_eq, decide_not,
    Nat.reduceEqDiff, Nat.reduceAdd, Nat.reduceSub, Nat.reduceMul, Nat.reduceLeDiff, Nat.reduceLT, Nat.zero_add, Nat.add_zero, Option.getD_some, Option.getD_none, Option.isSome_some, Option.isSome_none, reduceIte, reduceCtorEq, and_self, and_true, true_and, not_true_eq_false, not_false_eq_true, false_imp_iff, forall_const, imp_self,
    Int.reduceNeg, Int.reduceLT, Int.reduceLE, Int.reduceGT, Int.reduceGE, Int.reduceAdd, Int.reduceSub, Int.reduceMul, Int.reduceToNat, Int.reduceEq, ne_eq, eq_self, beq_self_eq_true]
    · have w2 : (l.length : Int) < 4 := by omega
      simp only [fi44, Tryd.f44, an44, w2, T3, T5, T34, T57, e_seq, e_region, e_dyn, e_dynS, stepD, accs, accP, accW, simpleOp, isAl, isExt, flipD, D.fresh1, D.row, D.plain, D.plain.plainL, St.close, St.close1, St.borrow, thawV, D.plainU, List.flatten_cons, List.flatten_nil, e_block, e_cond, e_ret, e_skip, e_exit, e_plain, e_guard, e_nil, e_op, e_ifT, e_ifF, e_true, e_false, e_loop, e_l, e_top, e_seqN, e_seqE, e_seqR, e_blockN, e_blockR, e_blockE,
    e_finN, e_finX, e_finR, retV, resV, resL, outCL, outC, outL, outD, wantedV, opV, An.at_, prune, List.map_cons, List.map_nil, envOf, get, put, eval, ofV, nbeq, nble, binV, binV.aggV, unV, intV, eqOp, isConst, natV, optV, loadV, loadC, storeV, setC, St.at_, partV, indexAddrV, fieldAddrV, sliceV, sliceV.rowSl, sliceV.strSl, bounds, cutP,
    builtinV, lenV, maxL, maxV, appendV, St.elems, roomy, rowOf, rowS, isStr, esz, tdOf, convV, buildV, fillV, partsV, okParts, fillL, D.whole, D.demoteC, D.demote, demoteL, D.global, D.leaf, D.cells, TI.agg, TD.rowish, callOpV, CC, keepB, St.borrowL, St.borrow, D.isLsl, adoptR, adoptC, adoptCL, adoptL, adopt, upd,
    List.toArray, Array.toList, List.length_cons, List.length_nil, List.length_map, List.length_append, List.length_replicate, List.replicate_succ, List.replicate_zero, List.replicate_one, ← List.map_take, ← List.map_drop, List.drop_zero, List.take_succ_cons, List.take_zero, List.take_nil, List.drop_succ_cons, List.drop_nil, Nat.zero_le, Nat.le_refl, Nat.sub_zero, List.getElem?_cons_succ, List.getElem?_cons_zero, List.getElem?_nil, List.any_cons, List.any_nil, List.all_cons, List.all_nil, List.append_nil, List.nil_append, List.cons_append, List.set_cons_zero, List.set_cons_succ,
    cond_true, cond_false, decide_true, decide_false, Bool.true_and, Bool.and_true, Bool.false_and, Bool.and_false, Bool.true_or, Bool.or_true, Bool.false_or, Bool.or_false, Bool.not_true, Bool.not_false, Bool.and_self, Bool.or_self, bT, bF, ieq, ine, decide_eq_true_eq, decide_not,
    Nat.reduceEqDiff, Nat.reduceAdd, Nat.reduceSub, Nat.reduceMul, Nat.reduceLeDiff, Nat.reduceLT, Nat.zero_add, Nat.add_zero, Option.getD_some, Option.getD_none, Option.isSome_some, Option.isSome_none, reduceIte, reduceCtorEq, and_self, and_true, true_and, not_true_eq_false, not_false_eq_true, false_imp_iff, forall_const, imp_self,
    Int.reduceNeg, Int.reduceLT, Int.reduceLE, Int.reduceGT, Int.reduceGE, Int.reduceAdd, Int.reduceSub, Int.reduceMul, Int.reduceToNat, Int.reduceEq, ne_eq, eq_self, beq_self_eq_true]

set_option maxRecDepth 10000 in
theorem run37 (C : Callees) (hk : Known02 C) (his : ∀ (d : D) (l : List UInt8) (B : Hp), ByD d l → l.length ≤ 1000000 → C 43 [d] B = some (.bool (isL l), B)) : runV T C fi37 [] [] = some (.bool true, []) := by
  let B : Hp := []
  have s1 : moreS 0 [97] = 3251651376 := by kernel_rfl
  have s2 : moreS 0 [49, 50, 51, 52, 53, 54, 55, 56, 57] = 3808858755 := by kernel_rfl
  have s3 : moreS 3251651376 [0, 0] = moreS 0 [97, 0, 0] := by rw [← s1]; exact (more_append (by omega) [97] [0, 0]).symm
  have h1 : ∀ p, C 38 [.vec 1 [.int .u8 97] p] B = some (.int .u32 3251651376, B) := fun p => by
    have := hk.sum _ [97] B (.inr ⟨p, rfl⟩) (by simp)
    rw [s1] at this; exact this
  have h2 : C 39 [.int .u32 3251651376, .int .i64 2] B = some (.tuple [.int .u32 (moreS 0 [97, 0, 0] : Nat), .nili], B) := by
    have := hk.noughts 3251651376 2 B (by omega)
    rw [noughtsD, if_neg (by omega), show (2 : Int).toNat = 2 from rfl, show List.replicate 2 (0 : UInt8) = [0, 0] from rfl, s3] at this; exact this
  have h3 : C 39 [.int .u32 0, .int .i64 (-1)] B = some (.tuple [.int .u32 0, .iface 77 (.int .i64 1)], B) := hk.noughts 0 (-1) B (by omega)
  have h4 : ∀ p, C 38 [.vec 1 [.int .u8 49, .int .u8 50, .int .u8 51, .int .u8 52, .int .u8 53, .int .u8 54, .int .u8 55, .int .u8 56, .int .u8 57] p] B = some (.int .u32 3808858755, B) := fun p => by
    have := hk.sum _ [49, 50, 51, 52, 53, 54, 55, 56, 57] B (.inr ⟨p, rfl⟩) (by simp)
    rw [s2] at this; exact this
  have h5 : ∀ p, C 38 [.vec 1 [.int .u8 97, .int .u8 0, .int .u8 0] p] B = some (.int .u32 (moreS 0 [97, 0, 0] : Nat), B) := fun p => hk.sum _ [97, 0, 0] B (.inr ⟨p, rfl⟩) (by simp)
  have h6 : C 40 [.iface 77 (.int .i64 1)] B = some (.int .i64 1, B) := hk.num 1 B
  have h7 : ∀ p, C 43 [.vec 1 [.int .u8 97, .int .u8 98, .int .u8 99, .int .u8 100] p] B = some (.bool false, B) := fun p => his _ [97, 98, 99, 100] B (.inr ⟨p, rfl⟩) (by simp)
  have h8 : ∀ p, C 43 [.vec 1 [.int .u8 0, .int .u8 0, .int .u8 0, .int .u8 0] p] B = some (.bool true, B) := fun p => his _ [0, 0, 0, 0] B (.inr ⟨p, rfl⟩) (by simp)
  generalize moreS 0 [97, 0, 0] = s at h2 h5
  simp only [B] at h1 h2 h3 h4 h5 h6 h7 h8
  rw [e_run _ _ _ rfl]
  simp only [fi37, Tryd.f37, an37, h1, h2, h3, h4, h5, h6, h7, h8, List.all_nil, T3, T4, T5, T25, T34, T57, e_seq, e_region, e_dyn, e_dynS, stepD, accs, accP, accW, simpleOp, isAl, isExt, flipD, D.fresh1, D.row, D.plain, D.plain.plainL, St.close, St.close1, St.borrow, thawV, D.plainU, List.flatten_cons, List.flatten_nil, e_block, e_cond, e_ret, e_skip, e_exit, e_plain, e_guard, e_nil, e_op, e_ifT, e_ifF, e_true, e_false, e_loop, e_l, e_top, e_seqN, e_seqE, e_seqR, e_blockN, e_blockR, e_blockE,
    e_finN, e_finX, e_finR, retV, resV, resL, outCL, outC, outL, outD, wantedV, opV, An.at_, prune, List.map_cons, List.map_nil, envOf, get, put, eval, ofV, nbeq, nble, binV, binV.aggV, unV, intV, eqOp, isConst, natV, optV, loadV, loadC, storeV, setC, St.at_, partV, indexAddrV, fieldAddrV, sliceV, sliceV.rowSl, sliceV.strSl, bounds, cutP,
    builtinV, lenV, maxL, maxV, appendV, St.elems, roomy, rowOf, rowS, isStr, esz, tdOf, convV, buildV, fillV, partsV, okParts, fillL, D.whole, D.demoteC, D.demote, demoteL, D.global, D.leaf, D.cells, TI.agg, TD.rowish, callOpV, CC, keepB, St.borrowL, St.borrow, D.isLsl, adoptR, adoptC, adoptCL, adoptL, adopt, upd,
    List.toArray, Array.toList, List.length_cons, List.length_nil, List.length_map, List.length_append, List.length_replicate, List.replicate_succ, List.replicate_zero, List.replicate_one, ← List.map_take, ← List.map_drop, List.drop_zero, List.take_succ_cons, List.take_zero, List.take_nil, List.drop_succ_cons, List.drop_nil, Nat.zero_le, Nat.le_refl, Nat.sub_zero, List.getElem?_cons_succ, List.getElem?_cons_zero, List.getElem?_nil, List.any_cons, List.any_nil, List.all_cons, List.all_nil, List.append_nil, List.nil_append, List.cons_append, List.set_cons_zero, List.set_cons_succ,
    cond_true, cond_false, decide_true, decide_false, Bool.true_and, Bool.and_true, Bool.false_and, Bool.and_false, Bool.true_or, Bool.or_true, Bool.false_or, Bool.or_false, Bool.not_true, Bool.not_false, Bool.and_self, Bool.or_self, bT, bF, ieq, ine, decide_eq_true_eq, decide_not,
    Nat.reduceEqDiff, Nat.reduceAdd, Nat.reduceSub, Nat.reduceMul, Nat.reduceLeDiff, Nat.reduceLT, Nat.zero_add, Nat.add_zero, Option.getD_some, Option.getD_none, Option.isSome_some, Option.isSome_none, reduceIte, reduceCtorEq, and_self, and_true, true_and, not_true_eq_false, not_false_eq_true, false_imp_iff, forall_const, imp_self,
    Int.reduceNeg, Int.reduceLT, Int.reduceLE, Int.reduceGT, Int.reduceGE, Int.reduceAdd, Int.reduceSub, Int.reduceMul, Int.reduceToNat, Int.reduceEq, ne_eq, eq_self, beq_self_eq_true]

end Go.Proofs.YtdmlojinmkcldaaDoor.V
