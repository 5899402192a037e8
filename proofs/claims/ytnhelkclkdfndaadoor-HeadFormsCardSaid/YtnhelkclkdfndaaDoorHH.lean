/-
Layer 19: the callees, all at once; arguments.
-/
import Derived.Test.YtnhelkclkdfndaaDoorHG
import Derived.Test.YtnhelkclkdfndaaDoorXQ
import Derived.Test.YtnhelkclkdfndaaDoorNC
namespace Go.Proofs.YtnhelkclkdfndaaDoor.V
open Go Go.RowKit
set_option linter.unusedSimpArgs false
set_option linter.unusedVariables false

/-! slices.Clone[[]byte,byte] -/
def an140 : An := ⟨fun _ => .none, fun _ => 0, fun _ => false, fun _ => .none⟩
noncomputable def fi140 : FI := ⟨1, 8, Tryd.f140.body.getD .skip, Tryd.f140.results.toList, an140, false, false, false⟩
theorem ok140 : FnOk Tryd.prog 140 fi140 := ⟨⟨Tryd.f140, Tryd.func140, by kernel_rfl, rfl, rfl, rfl⟩, by decide, by kernel_rfl, fun h => by cases h⟩

set_option maxRecDepth 10000 in
theorem run140_real (C : Callees) (xs : List D) (h : roomy xs.length 1 = true) (B : Hp) : runV T C fi140 [.vec 1 xs .real] B = some (.vec 1 xs .fresh, B) := by
  rw [e_run _ _ _ rfl]
  simp only [fi140, Tryd.f140, an140, h, T5, T68, EL, e_finWf, e_finWt, e_finMN, e_finMX, retM, meltV, tupV, D.asBox, D.row1, D.freeR, D.freeO, List.replicate_succ, stepD, accs, accP, accW, simpleOp, isAl, isExt, flipD, D.fresh1, D.row, D.plain, D.plain.plainL, St.close, St.close1, St.borrow, retV, resV, resL, outCL, outC, outL, outD, wantedV, opV, An.mid, thawV, St.settle, D.plainU, prune, envOf, get, put, eval, evalT, nz, argsV, capsV, ofV, binV, binV.aggV, unV, intV, eqOp, isConst, natV, optV, loadV, loadC, storeV, setC, St.at_, partV, partTy, indexAddrV, fieldAddrV, sliceV, sliceV.rowSl, sliceV.strSl, bounds, cutP, builtinV, lenV, maxL, maxV, appendV, St.elems, rowOf, rowS, isStr, esz, tdOf, convV, buildV, fillV, partsV, okParts, fillL, D.whole, D.demoteC, D.demote, demoteL, D.global, D.flat, D.leaf, D.cells, TI.agg, TD.rowish, callOpV, moveL, CC, keepB, St.borrowL, St.borrow, D.isLsl, adoptR, adoptC, adoptCL, adoptL, adopt, List.toArray, Array.toList, Nat.reduceEqDiff, Nat.reduceAdd, Nat.reduceSub, Nat.reduceMul, Nat.reduceLeDiff, Nat.reduceLT, reduceIte, reduceCtorEq, forall_const, imp_self, Int.reduceNeg, Int.reduceLT, Int.reduceLE, Int.reduceGT, Int.reduceGE, Int.reduceAdd, Int.reduceSub, Int.reduceMul, Int.reduceToNat, Int.reduceEq, ne_eq, eq_self]

set_option maxRecDepth 10000 in
theorem run140_nil (C : Callees) (B : Hp) : runV T C fi140 [.nilsl] B = some (.vec 1 [] .fresh, B) := by
  rw [e_run _ _ _ rfl]
  simp only [fi140, Tryd.f140, an140, T5, T68, EL, e_finWf, e_finWt, e_finMN, e_finMX, retM, meltV, tupV, D.asBox, D.row1, D.freeR, D.freeO, List.replicate_succ, stepD, accs, accP, accW, simpleOp, isAl, isExt, flipD, D.fresh1, D.row, D.plain, D.plain.plainL, St.close, St.close1, St.borrow, retV, resV, resL, outCL, outC, outL, outD, wantedV, opV, An.mid, thawV, St.settle, D.plainU, prune, envOf, get, put, eval, evalT, nz, argsV, capsV, ofV, binV, binV.aggV, unV, intV, eqOp, isConst, natV, optV, loadV, loadC, storeV, setC, St.at_, partV, partTy, indexAddrV, fieldAddrV, sliceV, sliceV.rowSl, sliceV.strSl, bounds, cutP, builtinV, lenV, maxL, maxV, appendV, St.elems, roomy, rowOf, rowS, isStr, esz, tdOf, convV, buildV, fillV, partsV, okParts, fillL, D.whole, D.demoteC, D.demote, demoteL, D.global, D.flat, D.leaf, D.cells, TI.agg, TD.rowish, callOpV, moveL, CC, keepB, St.borrowL, St.borrow, D.isLsl, adoptR, adoptC, adoptCL, adoptL, adopt, List.toArray, Array.toList, Nat.reduceEqDiff, Nat.reduceAdd, Nat.reduceSub, Nat.reduceMul, Nat.reduceLeDiff, Nat.reduceLT, reduceIte, reduceCtorEq, forall_const, imp_self, Int.reduceNeg, Int.reduceLT, Int.reduceLE, Int.reduceGT, Int.reduceGE, Int.reduceAdd, Int.reduceSub, Int.reduceMul, Int.reduceToNat, Int.reduceEq, ne_eq, eq_self]

noncomputable def tab140 : FuncId → Option FI := fun f => bif Nat.beq f 140 then some fi140 else .none

theorem beqT {a b : Nat} (h : Nat.beq a b = true) : a = b := Nat.eq_of_beq_eq_true h

theorem tabOk {c : Cx} (hP : c.P = Tryd.prog) : TabOk c.P T := by rw [hP]; exact tabOf_ok _

/-- What is known by hand, and copies. -/
noncomputable def prims19 : Callees := upd prims 140 (cloneV 1 1)

theorem prims19_ok {c : Cx} (hP : c.P = Tryd.prog) (hl : laidAt c) : CallOK c prims19 := by
  refine CallOK.or_nil (prims_ok hP hl) (limC_ok (P0 := noCallees) (F := tab140) (tabOk hP) (by rw [hP]; exact seatMixed) CallOK.none (fun f fi h => ?_)) (fun args B r h => ?_)
  · unfold tab140 at h
    cases hb : Nat.beq f 140 with
    | false => rw [hb] at h; cases h
    | true =>
      rw [hb] at h
      obtain rfl := beqT hb
      injection h with h; subst h
      rw [hP]; exact ok140
  · obtain ⟨xs, rfl, hr, rfl⟩ := cloneV_inv h
    have hH := limC_has (T := T) (P0 := noCallees) (F := tab140) (f := 140) (fi := fi140) rfl (fun _ _ => rfl)
    exact ⟨1, xs, rfl, hH _ _ _ (run140_real _ xs hr B), fun h0 => by subst h0; exact hH _ _ _ (run140_nil _ B)⟩

noncomputable def tab19 : FuncId → Option FI
  | 139 => some fi139
  | 163 => some fi163
  | 135 => some fi135
  | 88 => some fi88
  | 91 => some fi91
  | 162 => some fi162
  | 166 => some fi166
  | 90 => some fi90
  | 95 => some fi95
  | 165 => some fi165
  | 160 => some fi160
  | 136 => some fi136
  | 138 => some fi138
  | 137 => some fi137
  | 143 => some fi143
  | 115 => some fi115
  | 161 => some fi161
  | 134 => some fi134
  | 141 => some fi141
  | 89 => some fi89
  | 144 => some fi144
  | 92 => some fi92
  | 142 => some fi142
  | 93 => some fi93
  | 94 => some fi94
  | 87 => some fi87
  | 96 => some fi96
  | 154 => some fi154
  | 120 => some fi120
  | 119 => some fi119
  | 116 => some fi116
  | 121 => some fi121
  | 97 => some fi97
  | 117 => some fi117
  | 39 => some fi39
  | 32 => some fi32
  | 34 => some fi34
  | 41 => some fi41
  | 36 => some fi36
  | 40 => some fi40
  | 33 => some fi33
  | 35 => some fi35
  | 37 => some fi37
  | 31 => some fi31
  | 6 => some fi6
  | 7 => some fi7
  | 8 => some fi8
  | _ => .none

theorem tab19_ok (f : FuncId) (fi : FI) (h : tab19 f = some fi) : FnOk Tryd.prog f fi := by
  unfold tab19 at h
  split at h <;> first | (injection h with h; subst h; first | exact ok139 | exact ok163 | exact ok135 | exact ok88 | exact ok91 | exact ok162 | exact ok166 | exact ok90 | exact ok95 | exact ok165 | exact ok160 | exact ok136 | exact ok138 | exact ok137 | exact ok143 | exact ok115 | exact ok161 | exact ok134 | exact ok141 | exact ok89 | exact ok144 | exact ok92 | exact ok142 | exact ok93 | exact ok94 | exact ok87 | exact ok96 | exact ok154 | exact ok120 | exact ok119 | exact ok116 | exact ok121 | exact ok97 | exact ok117 | exact ok39 | exact ok32 | exact ok34 | exact ok41 | exact ok36 | exact ok40 | exact ok33 | exact ok35 | exact ok37 | exact ok31 | exact ok6 | exact ok7 | exact ok8) | cases h

noncomputable abbrev C19 : Callees := limC T prims19 tab19

theorem C19_ok {c : Cx} (hP : c.P = Tryd.prog) (hl : laidAt c) : CallOK c C19 := limC_ok (tabOk hP) (by rw [hP]; exact seatMixed) (prims19_ok hP hl) (fun f fi h => by rw [hP]; exact tab19_ok f fi h)

theorem has19 {f : FuncId} {fi : FI} (h : tab19 f = some fi) (h1 : Nat.beq 38 f = false) (h2 : Nat.beq 140 f = false) : Has T C19 f fi := limC_has h (fun args B => by
  unfold prims19 V.upd
  rw [h2]; exact prims_none h1 args B)

theorem roomy_bytes {n : Nat} (h : n ≤ 140737488351232) : roomy n 1 = true := by
  simp only [roomy, nble, decide_eq_true_eq]; omega

theorem known19 : Known19 C19 := by
  repeat' constructor
  all_goals first
    | exact has19 rfl rfl rfl
    | exact fun n B => limC_prim (prims_num n B)
    | exact fun l B h => limC_prim (by
        show prims19 _ _ _ = _
        simp only [prims19, V.upd, nbeq, decide_true, cond_true, cloneV, List.length_map, roomy_bytes (Nat.le_trans h (by decide)), and_self, if_true])

set_option maxRecDepth 100000 in
theorem arg_hd {W : World} {r : Reach} {b0 : Nat} {v : Value} (hval : Value.okWide Tryd.prog W r b0 67 v) : ∃ (a : Nat) (b : Nat) (c : Nat) (r : Int) (e : Int), a < 18446744073709551616 ∧ b < 18446744073709551616 ∧ c < 18446744073709551616 ∧ -9223372036854775808 ≤ r ∧ r < 9223372036854775808 ∧ -9223372036854775808 ≤ e ∧ e < 9223372036854775808 ∧ Rep [] (sizeAt W) W (.agg [.int .u64 (a : Nat), .int .u64 (b : Nat), .int .u64 (c : Nat), .int .i64 r, .int .i64 e]) v := by
  have g1 : isAggB Tryd.prog 67 = true := by kernel_rfl
  have g2 : Tryd.prog.cellTypes Tryd.prog.depth 67 = some [22, 22, 22, 3, 3] := by kernel_rfl
  obtain ⟨cs, rfl, hsz, hc⟩ := arg_agg g1 g2 hval
  have hs3 : cs.size = 5 := hsz.trans (by kernel_rfl)
  obtain ⟨u0, e0, c0⟩ := hc 0 _ (Array.getElem?_eq_getElem (by omega))
  injection e0 with e0; subst e0
  obtain ⟨a, x0, y0⟩ := cell_int (by kernel_rfl : Tryd.prog.underlying 22 = some (.int .u64)) c0
  simp [IntKind.has, IntKind.min, IntKind.max, IntKind.bits, IntKind.signed] at y0
  obtain ⟨u1, e1, c1⟩ := hc 1 _ (Array.getElem?_eq_getElem (by omega))
  injection e1 with e1; subst e1
  obtain ⟨b, x1, y1⟩ := cell_int (by kernel_rfl : Tryd.prog.underlying 22 = some (.int .u64)) c1
  simp [IntKind.has, IntKind.min, IntKind.max, IntKind.bits, IntKind.signed] at y1
  obtain ⟨u2, e2, c2⟩ := hc 2 _ (Array.getElem?_eq_getElem (by omega))
  injection e2 with e2; subst e2
  obtain ⟨c, x2, y2⟩ := cell_int (by kernel_rfl : Tryd.prog.underlying 22 = some (.int .u64)) c2
  simp [IntKind.has, IntKind.min, IntKind.max, IntKind.bits, IntKind.signed] at y2
  obtain ⟨u3, e3, c3⟩ := hc 3 _ (Array.getElem?_eq_getElem (by omega))
  injection e3 with e3; subst e3
  obtain ⟨r, x3, y3⟩ := cell_int (by kernel_rfl : Tryd.prog.underlying 3 = some (.int .i64)) c3
  simp [IntKind.has, IntKind.min, IntKind.max, IntKind.bits, IntKind.signed] at y3
  obtain ⟨u4, e4, c4⟩ := hc 4 _ (Array.getElem?_eq_getElem (by omega))
  injection e4 with e4; subst e4
  obtain ⟨e, x4, y4⟩ := cell_int (by kernel_rfl : Tryd.prog.underlying 3 = some (.int .i64)) c4
  simp [IntKind.has, IntKind.min, IntKind.max, IntKind.bits, IntKind.signed] at y4
  refine ⟨a.toNat, b.toNat, c.toNat, r, e, by omega, by omega, by omega, by omega, by omega, by omega, by omega, rep_agg (by simp [hs3]) (fun i d hi => ?_)⟩
  rcases i with _ | _ | _ | _ | _ | i
  · obtain rfl := Option.some.inj hi; exact ⟨_, Array.getElem?_eq_getElem (by omega), by rw [x0, show ((a.toNat : Nat) : Int) = a by omega]; exact .int _ _⟩
  · obtain rfl := Option.some.inj hi; exact ⟨_, Array.getElem?_eq_getElem (by omega), by rw [x1, show ((b.toNat : Nat) : Int) = b by omega]; exact .int _ _⟩
  · obtain rfl := Option.some.inj hi; exact ⟨_, Array.getElem?_eq_getElem (by omega), by rw [x2, show ((c.toNat : Nat) : Int) = c by omega]; exact .int _ _⟩
  · obtain rfl := Option.some.inj hi; exact ⟨_, Array.getElem?_eq_getElem (by omega), by rw [x3]; exact .int _ _⟩
  · obtain rfl := Option.some.inj hi; exact ⟨_, Array.getElem?_eq_getElem (by omega), by rw [x4]; exact .int _ _⟩
  · simp at hi
set_option maxRecDepth 100000 in
theorem arg_was {W : World} {r : Reach} {b0 : Nat} {v : Value} (hval : Value.okWide Tryd.prog W r b0 85 v) : ∃ (a : Nat) (b : Nat), a < 65536 ∧ b < 65536 ∧ Rep [] (sizeAt W) W (.agg [.int .u16 (a : Nat), .int .u16 (b : Nat)]) v := by
  have g1 : isAggB Tryd.prog 85 = true := by kernel_rfl
  have g2 : Tryd.prog.cellTypes Tryd.prog.depth 85 = some [84, 84] := by kernel_rfl
  obtain ⟨cs, rfl, hsz, hc⟩ := arg_agg g1 g2 hval
  have hs3 : cs.size = 2 := hsz.trans (by kernel_rfl)
  obtain ⟨u0, e0, c0⟩ := hc 0 _ (Array.getElem?_eq_getElem (by omega))
  injection e0 with e0; subst e0
  obtain ⟨a, x0, y0⟩ := cell_int (by kernel_rfl : Tryd.prog.underlying 84 = some (.int .u16)) c0
  simp [IntKind.has, IntKind.min, IntKind.max, IntKind.bits, IntKind.signed] at y0
  obtain ⟨u1, e1, c1⟩ := hc 1 _ (Array.getElem?_eq_getElem (by omega))
  injection e1 with e1; subst e1
  obtain ⟨b, x1, y1⟩ := cell_int (by kernel_rfl : Tryd.prog.underlying 84 = some (.int .u16)) c1
  simp [IntKind.has, IntKind.min, IntKind.max, IntKind.bits, IntKind.signed] at y1
  refine ⟨a.toNat, b.toNat, by omega, by omega, rep_agg (by simp [hs3]) (fun i d hi => ?_)⟩
  rcases i with _ | _ | i
  · obtain rfl := Option.some.inj hi; exact ⟨_, Array.getElem?_eq_getElem (by omega), by rw [x0, show ((a.toNat : Nat) : Int) = a by omega]; exact .int _ _⟩
  · obtain rfl := Option.some.inj hi; exact ⟨_, Array.getElem?_eq_getElem (by omega), by rw [x1, show ((b.toNat : Nat) : Int) = b by omega]; exact .int _ _⟩
  · simp at hi

theorem run6_n (a b c : Nat) (r e : Int) (ha : a < 18446744073709551616) (x y : List UInt8) : runV T C19 fi6 [.agg [.int .u64 a, .int .u64 b, .int .u64 c, .int .i64 r, .int .i64 e], .vec 1 (x.map byteD) .none, .vec 1 (y.map byteD) .none] [] = some (.bool true, []) :=
  run6 known19 ⟨a, b, c, r, e⟩ ha x y
theorem run7_n (a b c : Nat) (r e : Int) (ha : a < 18446744073709551616) (p q : Nat) (hp : p < 65536) (hq : q < 65536) (n : Int) : runV T C19 fi7 [.agg [.int .u64 a, .int .u64 b, .int .u64 c, .int .i64 r, .int .i64 e], .agg [.int .u16 p, .int .u16 q], .int .i64 n] [] = some (.bool true, []) :=
  run7 known19 ⟨a, b, c, r, e⟩ ha p q hp hq n
theorem run8_n (a b c : Nat) (r e : Int) (ha : a < 18446744073709551616) (x : List UInt8) : runV T C19 fi8 [.agg [.int .u64 a, .int .u64 b, .int .u64 c, .int .i64 r, .int .i64 e], .vec 1 (x.map byteD) .none] [] = some (.bool true, []) :=
  run8 known19 ⟨a, b, c, r, e⟩ ha x

end Go.Proofs.YtnhelkclkdfndaaDoor.V
