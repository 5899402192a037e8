/-
Layer 9: the callees, all at once; arguments.
-/
import Derived.Test.YtnhelkclkdfndaaDoorQK
import Derived.Test.YtnhelkclkdfndaaDoorXQ
import Derived.Test.YtnhelkclkdfndaaDoorNE
namespace Go.Proofs.YtnhelkclkdfndaaDoor.V
open Go Go.RowKit
set_option linter.unusedSimpArgs false
set_option linter.unusedVariables false

/-! slices.Clone[[]byte,byte] -/
def an140 : An := ⟨fun _ => .none, fun _ => 0, fun _ => false, fun _ => .none⟩
noncomputable def fi140 : FI := ⟨1, 8, Tryd.f140.body.getD .skip, Tryd.f140.results.toList, an140, false, false, false⟩
theorem ok140 : FnOk Tryd.prog 140 fi140 := ⟨⟨Tryd.f140, Tryd.func140, by kernel_rfl, rfl, rfl, rfl⟩, by decide, by kernel_rfl, fun h => by cases h⟩

set_option maxRecDepth 10000 in
theorem run140_real (C : Callees) (xs : List D) (h : roomy xs.length 1 = true) (B : Hp) : runV T C fi140 [.vec 1 xs .real] B = some (.vec 1 xs .fresh, B) := by
  rw [e_run _ _ _ rfl]
  simp only [fi140, Tryd.f140, an140, h, T5, T68, EL, e_finWf, e_finWt, e_finMN, e_finMX, retM, meltV, tupV, D.asBox, D.row1, D.freeR, D.freeO, List.replicate_succ, stepD, accs, accP, accW, simpleOp, isAl, isExt, flipD, D.fresh1, D.row, D.plain, D.plain.plainL, St.close, St.close1, St.borrow, retV, resV, resL, outCL, outC, outL, outD, wantedV, opV, An.mid, thawV, St.settle, D.plainU, prune, envOf, get, put, eval, evalT, nz, argsV, capsV, ofV, binV, binV.aggV, unV, intV, eqOp, isConst, natV, optV, loadV, loadC, storeV, setC, St.at_, partV, partTy, indexAddrV, fieldAddrV, sliceV, sliceV.rowSl, sliceV.strSl, bounds, cutP, builtinV, lenV, maxL, maxV, appendV, St.elems, rowOf, rowS, isStr, esz, tdOf, convV, buildV, fillV, partsV, okParts, fillL, D.whole, D.demoteC, D.demote, demoteL, D.global, D.flat, D.leaf, D.cells, TI.agg, TD.rowish, callOpV, moveL, CC, keepB, St.borrowL, St.borrow, D.isLsl, adoptR, adoptC, adoptCL, adoptL, adopt, List.toArray, Array.toList, Nat.reduceEqDiff, Nat.reduceAdd, Nat.reduceSub, Nat.reduceMul, Nat.reduceLeDiff, Nat.reduceLT, reduceIte, reduceCtorEq, forall_const, imp_self, Int.reduceNeg, Int.reduceLT, Int.reduceLE, Int.reduceGT, Int.reduceGE, Int.reduceAdd, Int.reduceSub, Int.reduceMul, Int.reduceToNat, Int.reduceEq, ne_eq, eq_self]

set_option maxRecDepth 10000 in
theorem run140_nil (C : Callees) (B : Hp) : runV T C fi140 [.nilsl] B = some (.vec 1 [] .fresh, B) := by
  rw [e_run _ _ _ rfl]
  simp only [fi140, Tryd.f140, an140, T5, T68, EL, e_finWf, e_finWt, e_finMN, e_finMX, retM, meltV, tupV, D.asBox, D.row1, D.freeR, D.freeO, List.replicate_succ, stepD, accs, accP, accW, simpleOp, isAl, isExt, flipD, D.fresh1, D.row, D.plain, D.plain.plainL, St.close, St.close1, St.borrow, retV, resV, resL, outCL, outC, outL, outD, wantedV, opV, An.mid, thawV, St.settle, D.plainU, prune, envOf, get, put, eval, evalT, nz, argsV, capsV, ofV, binV, binV.aggV, unV, intV, eqOp, isConst, natV, optV, loadV, loadC, storeV, setC, St.at_, partV, partTy, indexAddrV, fieldAddrV, sliceV, sliceV.rowSl, sliceV.strSl, bounds, cutP, builtinV, lenV, maxL, maxV, appendV, St.elems, roomy, rowOf, rowS, isStr, esz, tdOf, convV, buildV, fillV, partsV, okParts, fillL, D.whole, D.demoteC, D.demote, demoteL, D.global, D.flat, D.leaf, D.cells, TI.agg, TD.rowish, callOpV, moveL, CC, keepB, St.borrowL, St.borrow, D.isLsl, adoptR, adoptC, adoptCL, adoptL, adopt, List.toArray, Array.toList, Nat.reduceEqDiff, Nat.reduceAdd, Nat.reduceSub, Nat.reduceMul, Nat.reduceLeDiff, Nat.reduceLT, reduceIte, reduceCtorEq, forall_const, imp_self, Int.reduceNeg, Int.reduceLT, Int.reduceLE, Int.reduceGT, Int.reduceGE, Int.reduceAdd, Int.reduceSub, Int.reduceMul, Int.reduceToNat, Int.reduceEq, ne_eq, eq_self]

noncomputable def tab140 : FuncId → Option FI := fun f => bif Nat.beq f 140 then some fi140 else .none

theorem beqT {a b : Nat} (h : Nat.beq a b = true) : a = b := Nat.eq_of_beq_eq_true h

theorem tabOk {c : Cx} (hP : c.P = Tryd.prog) : TabOk c.P T := by rw [hP]; exact tabOf_ok _

/-- What is known by hand, and copies. -/
noncomputable def prims09 : Callees := upd prims 140 (cloneV 1 1)

theorem prims09_ok {c : Cx} (hP : c.P = Tryd.prog) (hl : laidAt c) : CallOK c prims09 := by
  refine CallOK.or_nil (prims_ok hP hl) (limC_ok (P0 := noCallees) (F := tab140) (tabOk hP) (by rw [hP]; exact seatMixed) CallOK.none (fun f fi h => ?_)) (fun args B r h => ?_)
  · unfold tab140 at h
    cases hb : Nat.beq f 140 with
    | false => rw [hb] at h; cases h
    | true =>
      rw [hb] at h
      obtain rfl := beqT hb
      injection h with h; subst h
      rw [hP]; exact ok140
  · obtain ⟨xs, rfl, hr, rfl⟩ := cloneV_inv h
    have hH := limC_has (T := T) (P0 := noCallees) (F := tab140) (f := 140) (fi := fi140) rfl (fun _ _ => rfl)
    exact ⟨1, xs, rfl, hH _ _ _ (run140_real _ xs hr B), fun h0 => by subst h0; exact hH _ _ _ (run140_nil _ B)⟩

noncomputable def tab09 : FuncId → Option FI
  | 115 => some fi115
  | 161 => some fi161
  | 134 => some fi134
  | 141 => some fi141
  | 89 => some fi89
  | 144 => some fi144
  | 92 => some fi92
  | 142 => some fi142
  | 93 => some fi93
  | 94 => some fi94
  | 87 => some fi87
  | 96 => some fi96
  | 154 => some fi154
  | 120 => some fi120
  | 119 => some fi119
  | 116 => some fi116
  | 121 => some fi121
  | 97 => some fi97
  | 117 => some fi117
  | 155 => some fi155
  | 123 => some fi123
  | 122 => some fi122
  | 73 => some fi73
  | 76 => some fi76
  | 75 => some fi75
  | 125 => some fi125
  | 126 => some fi126
  | 156 => some fi156
  | 67 => some fi67
  | 118 => some fi118
  | 69 => some fi69
  | 74 => some fi74
  | 68 => some fi68
  | 70 => some fi70
  | 124 => some fi124
  | 72 => some fi72
  | 65 => some fi65
  | 66 => some fi66
  | 12 => some fi12
  | 13 => some fi13
  | _ => .none

theorem tab09_ok (f : FuncId) (fi : FI) (h : tab09 f = some fi) : FnOk Tryd.prog f fi := by
  unfold tab09 at h
  split at h <;> first | (injection h with h; subst h; first | exact ok115 | exact ok161 | exact ok134 | exact ok141 | exact ok89 | exact ok144 | exact ok92 | exact ok142 | exact ok93 | exact ok94 | exact ok87 | exact ok96 | exact ok154 | exact ok120 | exact ok119 | exact ok116 | exact ok121 | exact ok97 | exact ok117 | exact ok155 | exact ok123 | exact ok122 | exact ok73 | exact ok76 | exact ok75 | exact ok125 | exact ok126 | exact ok156 | exact ok67 | exact ok118 | exact ok69 | exact ok74 | exact ok68 | exact ok70 | exact ok124 | exact ok72 | exact ok65 | exact ok66 | exact ok12 | exact ok13) | cases h

noncomputable abbrev C09 : Callees := limC T prims09 tab09

theorem C09_ok {c : Cx} (hP : c.P = Tryd.prog) (hl : laidAt c) : CallOK c C09 := limC_ok (tabOk hP) (by rw [hP]; exact seatMixed) (prims09_ok hP hl) (fun f fi h => by rw [hP]; exact tab09_ok f fi h)

theorem has09 {f : FuncId} {fi : FI} (h : tab09 f = some fi) (h1 : Nat.beq 71 f = false) (h2 : Nat.beq 140 f = false) : Has T C09 f fi := limC_has h (fun args B => by
  unfold prims09 V.upd
  rw [h2]; exact prims_none h1 args B)

theorem roomy_bytes {n : Nat} (h : n ≤ 140737488351232) : roomy n 1 = true := by
  simp only [roomy, nble, decide_eq_true_eq]; omega

theorem known09 : Known09 C09 := by
  repeat' constructor
  all_goals first
    | exact has09 rfl rfl rfl
    | exact fun n B => limC_prim (prims_num n B)
    | exact fun l B h => limC_prim (by
        show prims09 _ _ _ = _
        simp only [prims09, V.upd, nbeq, decide_true, cond_true, cloneV, List.length_map, roomy_bytes (Nat.le_trans h (by decide)), and_self, if_true])

/-! ### A fork as an argument -/
theorem map_str : ∀ (xs : List (List D)), (∀ x, x ∈ xs → x.length = 1) → (∀ (x : List D) (i : Nat) (l : Sh) (d : D), x ∈ xs → [Sh.str][i]? = some l → x[i]? = some d → OfSh l d) → ∃ ks : List Ky, xs.map mkD = ks.map D.str
  | [], _, _ => ⟨[], rfl⟩
  | x :: xs, h1, h2 => by
    obtain ⟨ks, h3⟩ := map_str xs (fun y hy => h1 y (by simp [hy])) (fun y i l d hy => h2 y i l d (by simp [hy]))
    obtain ⟨a, rfl⟩ := len1 (h1 x (by simp))
    obtain ⟨s, rfl, _⟩ := OfSh.str' (h2 [a] 0 .str a (by simp) rfl rfl)
    exact ⟨s :: ks, by simp [mkD, h3]⟩
theorem map_int : ∀ (xs : List (List D)), (∀ x, x ∈ xs → x.length = 1) → (∀ (x : List D) (i : Nat) (l : Sh) (d : D), x ∈ xs → [Sh.int .i64][i]? = some l → x[i]? = some d → OfSh l d) → ∃ ns : List Int, xs.map mkD = ns.map iD
  | [], _, _ => ⟨[], rfl⟩
  | x :: xs, h1, h2 => by
    obtain ⟨ns, h3⟩ := map_int xs (fun y hy => h1 y (by simp [hy])) (fun y i l d hy => h2 y i l d (by simp [hy]))
    obtain ⟨a, rfl⟩ := len1 (h1 x (by simp))
    obtain ⟨n, rfl, _, _⟩ := OfSh.i64 (h2 [a] 0 (.int .i64) a (by simp) rfl rfl)
    exact ⟨n :: ns, by simp [mkD, h3]⟩

set_option maxRecDepth 100000 in
theorem arg_fork {H : Type} {enc : TypeId × Value → H} {base : Nat} {spare : Nat → Bool} {held : Bool} {W : World} {r : Reach} {b0 : Nat} {v : Value} {d : DataW H} {ps : List MemPlace} (hval : Value.okWide Tryd.prog W r b0 147 v) (hd : DataW.Trod enc Tryd.prog W base spare held 147 v d ps) :
    ∃ (ks : List Ky) (ns : List Int), ks.length ≤ 9223372036854775807 ∧ Rep [] (sizeAt W) W (.agg [.vec 1 (ks.map D.str) .none, .vec 1 (ns.map iD) .none]) v := by
  obtain ⟨ds, h1, h2, h3⟩ := arg_struct (n := 5) (ls := [.rows [.str], .rows [.int .i64]]) (ts := [145, 137]) (by kernel_rfl) (by kernel_rfl) (by kernel_rfl) hval hd
  obtain ⟨a, b, rfl⟩ := len2 h1
  obtain ⟨xs, rfl, hl, h4, h5⟩ := (h2 0 _ a rfl rfl).rows'
  obtain ⟨ys, rfl, hl2, h6, h7⟩ := (h2 1 _ b rfl rfl).rows'
  obtain ⟨ks, e1⟩ := map_str xs h4 h5
  obtain ⟨ns, e2⟩ := map_int ys h6 h7
  have hk : ks.length = xs.length := by
    have := congrArg List.length e1
    simp at this; exact this.symm
  rw [e1, e2] at h3
  exact ⟨ks, ns, by omega, h3⟩

end Go.Proofs.YtnhelkclkdfndaaDoor.V
