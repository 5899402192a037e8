/-
Layer 10: the callees, all at once.
-/
import Derived.Test.YtploddijjofphaaDoorPC
import Derived.Test.YtploddijjofphaaDoorNG
namespace Go.Proofs.YtploddijjofphaaDoor.V
open Go Go.RowKit
set_option linter.unusedSimpArgs false
set_option linter.unusedVariables false

/-! slices.Clone[[]byte,byte] -/
def an69 : An := ⟨fun _ => .none, fun _ => 0, fun _ => false, fun _ => .none⟩
noncomputable def fi69 : FI := ⟨1, 8, Tryd.f69.body.getD .skip, Tryd.f69.results.toList, an69, false, false⟩
theorem ok69 : FnOk Tryd.prog 69 fi69 := ⟨⟨Tryd.f69, Tryd.func69, by kernel_rfl, rfl, rfl, rfl⟩, by decide, by kernel_rfl, fun h => by cases h⟩

set_option maxRecDepth 10000 in
theorem run69_real (C : Callees) (xs : List D) (h : roomy xs.length 1 = true) (B : Hp) : runV T C fi69 [.vec 1 xs .real] B = some (.vec 1 xs .fresh, B) := by
  rw [e_run _ _ _ rfl]
  simp only [fi69, Tryd.f69, an69, h, T5, T64, e_seq, e_region, e_dyn, e_dynS, stepD, accs, accP, accW, simpleOp, isAl, isExt, flipD, D.fresh1, D.row, D.plain, D.plain.plainL, St.close, St.close1, St.borrow, List.flatten_cons, List.flatten_nil, e_block, e_cond, e_ret, e_skip, e_exit, e_plain, e_guard, e_nil, e_op, e_ifT, e_ifF, e_true, e_false, e_loop, e_l, e_top, e_seqN, e_seqE, e_seqR, e_blockN, e_blockR, e_blockE,
    begin_f, begin_t, end_f, e_finN, e_finX, e_finR, retV, resV, resL, outCL, outC, outL, outD, wantedV, opV, An.mid, thawV, D.plainU, prune, List.map_cons, List.map_nil, envOf, get, put, eval, evalT, nz, argsV, capsV, ofV, nbeq, nble, binV, binV.aggV, unV, intV, eqOp, isConst, natV, optV, loadV, loadC, storeV, setC, St.at_, partV, partTy, indexAddrV, fieldAddrV, sliceV, sliceV.rowSl, sliceV.strSl, bounds, cutP,
    builtinV, lenV, maxL, maxV, appendV, St.elems, rowOf, rowS, isStr, esz, tdOf, convV, buildV, fillV, partsV, okParts, fillL, D.whole, D.demoteC, D.demote, demoteL, D.global, D.flat, D.leaf, D.cells, TI.agg, TD.rowish, callOpV, moveL, CC, keepB, St.borrowL, St.borrow, D.isLsl, adoptR, adoptC, adoptCL, adoptL, adopt,
    List.toArray, Array.toList, List.length_cons, List.length_nil, List.length_map, List.length_append, List.length_replicate, List.replicate_succ, List.replicate_zero, List.replicate_one, ← List.map_take, ← List.map_drop, List.isEmpty_cons, List.isEmpty_nil, List.drop_zero, List.take_succ_cons, List.take_zero, List.take_nil, List.drop_succ_cons, List.drop_nil, Nat.zero_le, Nat.le_refl, Nat.sub_zero, List.getElem?_cons_succ, List.getElem?_cons_zero, List.getElem?_nil, List.any_cons, List.any_nil, List.all_cons, List.all_nil, List.append_nil, List.nil_append, List.cons_append, List.set_cons_zero, List.set_cons_succ,
    cond_true, cond_false, decide_true, decide_false, Bool.true_and, Bool.and_true, Bool.false_and, Bool.and_false, Bool.true_or, Bool.or_true, Bool.false_or, Bool.or_false, Bool.not_true, Bool.not_false, Bool.and_self, Bool.or_self, bT, bF, ieq, ine, decide_eq_true_eq, decide_not,
    Nat.reduceEqDiff, Nat.reduceAdd, Nat.reduceSub, Nat.reduceMul, Nat.reduceLeDiff, Nat.reduceLT, Nat.zero_add, Nat.add_zero, Option.getD_some, Option.getD_none, Option.isSome_some, Option.isSome_none, reduceIte, reduceCtorEq, and_self, and_true, true_and, not_true_eq_false, not_false_eq_true, false_imp_iff, forall_const, imp_self,
    Int.reduceNeg, Int.reduceLT, Int.reduceLE, Int.reduceGT, Int.reduceGE, Int.reduceAdd, Int.reduceSub, Int.reduceMul, Int.reduceToNat, Int.reduceEq, ne_eq, eq_self, beq_self_eq_true]

set_option maxRecDepth 10000 in
theorem run69_nil (C : Callees) (B : Hp) : runV T C fi69 [.nilsl] B = some (.vec 1 [] .fresh, B) := by
  rw [e_run _ _ _ rfl]
  simp only [fi69, Tryd.f69, an69, T5, T64, e_seq, e_region, e_dyn, e_dynS, stepD, accs, accP, accW, simpleOp, isAl, isExt, flipD, D.fresh1, D.row, D.plain, D.plain.plainL, St.close, St.close1, St.borrow, List.flatten_cons, List.flatten_nil, e_block, e_cond, e_ret, e_skip, e_exit, e_plain, e_guard, e_nil, e_op, e_ifT, e_ifF, e_true, e_false, e_loop, e_l, e_top, e_seqN, e_seqE, e_seqR, e_blockN, e_blockR, e_blockE,
    begin_f, begin_t, end_f, e_finN, e_finX, e_finR, retV, resV, resL, outCL, outC, outL, outD, wantedV, opV, An.mid, thawV, D.plainU, prune, List.map_cons, List.map_nil, envOf, get, put, eval, evalT, nz, argsV, capsV, ofV, nbeq, nble, binV, binV.aggV, unV, intV, eqOp, isConst, natV, optV, loadV, loadC, storeV, setC, St.at_, partV, partTy, indexAddrV, fieldAddrV, sliceV, sliceV.rowSl, sliceV.strSl, bounds, cutP,
    builtinV, lenV, maxL, maxV, appendV, St.elems, roomy, rowOf, rowS, isStr, esz, tdOf, convV, buildV, fillV, partsV, okParts, fillL, D.whole, D.demoteC, D.demote, demoteL, D.global, D.flat, D.leaf, D.cells, TI.agg, TD.rowish, callOpV, moveL, CC, keepB, St.borrowL, St.borrow, D.isLsl, adoptR, adoptC, adoptCL, adoptL, adopt,
    List.toArray, Array.toList, List.length_cons, List.length_nil, List.length_map, List.length_append, List.length_replicate, List.replicate_succ, List.replicate_zero, List.replicate_one, ← List.map_take, ← List.map_drop, List.isEmpty_cons, List.isEmpty_nil, List.drop_zero, List.take_succ_cons, List.take_zero, List.take_nil, List.drop_succ_cons, List.drop_nil, Nat.zero_le, Nat.le_refl, Nat.sub_zero, List.getElem?_cons_succ, List.getElem?_cons_zero, List.getElem?_nil, List.any_cons, List.any_nil, List.all_cons, List.all_nil, List.append_nil, List.nil_append, List.cons_append, List.set_cons_zero, List.set_cons_succ,
    cond_true, cond_false, decide_true, decide_false, Bool.true_and, Bool.and_true, Bool.false_and, Bool.and_false, Bool.true_or, Bool.or_true, Bool.false_or, Bool.or_false, Bool.not_true, Bool.not_false, Bool.and_self, Bool.or_self, bT, bF, ieq, ine, decide_eq_true_eq, decide_not,
    Nat.reduceEqDiff, Nat.reduceAdd, Nat.reduceSub, Nat.reduceMul, Nat.reduceLeDiff, Nat.reduceLT, Nat.zero_add, Nat.add_zero, Option.getD_some, Option.getD_none, Option.isSome_some, Option.isSome_none, reduceIte, reduceCtorEq, and_self, and_true, true_and, not_true_eq_false, not_false_eq_true, false_imp_iff, forall_const, imp_self,
    Int.reduceNeg, Int.reduceLT, Int.reduceLE, Int.reduceGT, Int.reduceGE, Int.reduceAdd, Int.reduceSub, Int.reduceMul, Int.reduceToNat, Int.reduceEq, ne_eq, eq_self, beq_self_eq_true]

noncomputable def tab69 : FuncId → Option FI := fun f => bif Nat.beq f 69 then some fi69 else .none

theorem beqT {a b : Nat} (h : Nat.beq a b = true) : a = b := Nat.eq_of_beq_eq_true h

theorem tabOk {c : Cx} (hP : c.P = Tryd.prog) : TabOk c.P T := by rw [hP]; exact tabOf_ok _

/-- What is known by hand, and copies. -/
noncomputable def prims01 : Callees := upd prims 69 (cloneV 1 1)

theorem prims01_ok {c : Cx} (hP : c.P = Tryd.prog) (hl : laidAt c) : CallOK c prims01 := by
  refine CallOK.or_nil (prims_ok hP hl) (limC_ok (P0 := noCallees) (F := tab69) (tabOk hP) (by rw [hP]; exact seatMixed) CallOK.none (fun f fi h => ?_)) (fun args B r h => ?_)
  · unfold tab69 at h
    cases hb : Nat.beq f 69 with
    | false => rw [hb] at h; cases h
    | true =>
      rw [hb] at h
      obtain rfl := beqT hb
      injection h with h; subst h
      rw [hP]; exact ok69
  · obtain ⟨xs, rfl, hr, rfl⟩ := cloneV_inv h
    have hH := limC_has (T := T) (P0 := noCallees) (F := tab69) (f := 69) (fi := fi69) rfl (fun _ _ => rfl)
    exact ⟨1, xs, rfl, hH _ _ _ (run69_real _ xs hr B), fun h0 => by subst h0; exact hH _ _ _ (run69_nil _ B)⟩

noncomputable def prims10 : Callees := upd prims01 43 piecesV

theorem prims10_ok {c : Cx} (hP : c.P = Tryd.prog) (hl : laidAt c) : CallOK c prims10 := prim_pieces hP (prims01_ok hP hl)

noncomputable def tab10 : FuncId → Option FI
  | 65 => some fi65
  | 28 => some fi28
  | 29 => some fi29
  | 30 => some fi30
  | 31 => some fi31
  | 32 => some fi32
  | 33 => some fi33
  | 40 => some fi40
  | 35 => some fi35
  | 36 => some fi36
  | 37 => some fi37
  | 38 => some fi38
  | 39 => some fi39
  | 52 => some fi52
  | 53 => some fi53
  | 54 => some fi54
  | 55 => some fi55
  | 44 => some fi44
  | 45 => some fi45
  | 46 => some fi46
  | 47 => some fi47
  | 48 => some fi48
  | 49 => some fi49
  | 67 => some fi67
  | 42 => some fi42
  | 7 => some fi7
  | 8 => some fi8
  | 9 => some fi9
  | _ => .none

theorem tab10_ok (f : FuncId) (fi : FI) (h : tab10 f = some fi) : FnOk Tryd.prog f fi := by
  unfold tab10 at h
  split at h <;> first | (injection h with h; subst h; first | exact ok65 | exact ok28 | exact ok29 | exact ok30 | exact ok31 | exact ok32 | exact ok33 | exact ok40 | exact ok35 | exact ok36 | exact ok37 | exact ok38 | exact ok39 | exact ok52 | exact ok53 | exact ok54 | exact ok55 | exact ok44 | exact ok45 | exact ok46 | exact ok47 | exact ok48 | exact ok49 | exact ok67 | exact ok42 | exact ok7 | exact ok8 | exact ok9) | cases h

noncomputable abbrev C10 : Callees := limC T prims10 tab10

theorem C10_ok {c : Cx} (hP : c.P = Tryd.prog) (hl : laidAt c) : CallOK c C10 := limC_ok (tabOk hP) (by rw [hP]; exact seatMixed) (prims10_ok hP hl) (fun f fi h => by rw [hP]; exact tab10_ok f fi h)

theorem has10 {f : FuncId} {fi : FI} (h : tab10 f = some fi) (h1 : Nat.beq 50 f = false) (h2 : Nat.beq 69 f = false) (h3 : Nat.beq 43 f = false) : Has T C10 f fi := limC_has h (fun args B => by
  unfold prims10 V.upd
  rw [h3]
  show prims01 f args B = .none
  unfold prims01 V.upd
  rw [h2]; exact prims_none h1 args B)

theorem roomy_bytes {n : Nat} (h : n ≤ 140737488351232) : roomy n 1 = true := by
  simp only [roomy, nble, decide_eq_true_eq]; omega

theorem known10 : Known10 C10 := by
  repeat' constructor
  all_goals first
    | exact has10 rfl rfl rfl rfl
    | exact fun n B => limC_prim (prims_num n B)
    | (refine fun l B h => limC_prim ?_
       simp only [prims10, prims01, V.upd, nbeq, Nat.reduceEqDiff, decide_true, decide_false, cond_true, cond_false, cloneV, List.length_map, roomy_bytes (Nat.le_trans h (by decide)), and_self, if_true]
       done)
    | (refine fun l B h => limC_prim ?_
       simp only [prims10, V.upd, nbeq, Nat.reduceEqDiff, decide_true, cond_true, piecesV, h, if_true]
       done)

end Go.Proofs.YtploddijjofphaaDoor.V
