/-
Layer 8: the callees, all at once; arguments.
-/
import Derived.Test.YtfkhijjabkhmmaaDoorGJ
import Derived.Test.YtfkhijjabkhmmaaDoorXQ
import Derived.Test.YtfkhijjabkhmmaaDoorNC
namespace Go.Proofs.YtfkhijjabkhmmaaDoor.V
open Go Go.RowKit
set_option linter.unusedSimpArgs false
set_option linter.unusedVariables false

/-! slices.Clone[[]byte,byte] -/
def an68 : An := ⟨fun _ => .none, fun _ => 0, fun _ => false, fun _ => .none⟩
noncomputable def fi68 : FI := ⟨1, 8, Tryd.f68.body.getD .skip, Tryd.f68.results.toList, an68, false, false, false⟩
theorem ok68 : FnOk Tryd.prog 68 fi68 := ⟨⟨Tryd.f68, Tryd.func68, by kernel_rfl, rfl, rfl, rfl⟩, by decide, by kernel_rfl, fun h => by cases h⟩

set_option maxRecDepth 10000 in
theorem run68_real (C : Callees) (xs : List D) (h : roomy xs.length 1 = true) (B : Hp) : runV T C fi68 [.vec 1 xs .real] B = some (.vec 1 xs .fresh, B) := by
  rw [e_run _ _ _ rfl]
  simp only [fi68, Tryd.f68, an68, h, T5, T23, EL, e_finWf, e_finWt, e_finMN, e_finMX, retM, meltV, tupV, D.asBox, D.row1, D.freeR, D.freeO, List.replicate_succ, stepD, accs, accP, accW, simpleOp, isAl, isExt, flipD, D.fresh1, D.row, D.plain, D.plain.plainL, St.close, St.close1, St.borrow, retV, resV, resL, outCL, outC, outL, outD, wantedV, opV, An.mid, thawV, St.settle, D.plainU, prune, envOf, get, put, eval, evalT, nz, argsV, capsV, ofV, binV, binV.aggV, unV, intV, eqOp, isConst, natV, optV, loadV, loadC, storeV, setC, St.at_, partV, partTy, indexAddrV, fieldAddrV, sliceV, sliceV.rowSl, sliceV.strSl, bounds, cutP, builtinV, lenV, maxL, maxV, appendV, St.elems, rowOf, rowS, isStr, esz, tdOf, convV, buildV, fillV, partsV, okParts, fillL, D.whole, D.demoteC, D.demote, demoteL, D.global, D.flat, D.leaf, D.cells, TI.agg, TD.rowish, callOpV, moveL, CC, keepB, St.borrowL, St.borrow, D.isLsl, adoptR, adoptC, adoptCL, adoptL, adopt, List.toArray, Array.toList, Nat.reduceEqDiff, Nat.reduceAdd, Nat.reduceSub, Nat.reduceMul, Nat.reduceLeDiff, Nat.reduceLT, reduceIte, reduceCtorEq, forall_const, imp_self, Int.reduceNeg, Int.reduceLT, Int.reduceLE, Int.reduceGT, Int.reduceGE, Int.reduceAdd, Int.reduceSub, Int.reduceMul, Int.reduceToNat, Int.reduceEq, ne_eq, eq_self]

set_option maxRecDepth 10000 in
theorem run68_nil (C : Callees) (B : Hp) : runV T C fi68 [.nilsl] B = some (.vec 1 [] .fresh, B) := by
  rw [e_run _ _ _ rfl]
  simp only [fi68, Tryd.f68, an68, T5, T23, EL, e_finWf, e_finWt, e_finMN, e_finMX, retM, meltV, tupV, D.asBox, D.row1, D.freeR, D.freeO, List.replicate_succ, stepD, accs, accP, accW, simpleOp, isAl, isExt, flipD, D.fresh1, D.row, D.plain, D.plain.plainL, St.close, St.close1, St.borrow, retV, resV, resL, outCL, outC, outL, outD, wantedV, opV, An.mid, thawV, St.settle, D.plainU, prune, envOf, get, put, eval, evalT, nz, argsV, capsV, ofV, binV, binV.aggV, unV, intV, eqOp, isConst, natV, optV, loadV, loadC, storeV, setC, St.at_, partV, partTy, indexAddrV, fieldAddrV, sliceV, sliceV.rowSl, sliceV.strSl, bounds, cutP, builtinV, lenV, maxL, maxV, appendV, St.elems, roomy, rowOf, rowS, isStr, esz, tdOf, convV, buildV, fillV, partsV, okParts, fillL, D.whole, D.demoteC, D.demote, demoteL, D.global, D.flat, D.leaf, D.cells, TI.agg, TD.rowish, callOpV, moveL, CC, keepB, St.borrowL, St.borrow, D.isLsl, adoptR, adoptC, adoptCL, adoptL, adopt, List.toArray, Array.toList, Nat.reduceEqDiff, Nat.reduceAdd, Nat.reduceSub, Nat.reduceMul, Nat.reduceLeDiff, Nat.reduceLT, reduceIte, reduceCtorEq, forall_const, imp_self, Int.reduceNeg, Int.reduceLT, Int.reduceLE, Int.reduceGT, Int.reduceGE, Int.reduceAdd, Int.reduceSub, Int.reduceMul, Int.reduceToNat, Int.reduceEq, ne_eq, eq_self]

noncomputable def tab68 : FuncId → Option FI := fun f => bif Nat.beq f 68 then some fi68 else .none

theorem beqT {a b : Nat} (h : Nat.beq a b = true) : a = b := Nat.eq_of_beq_eq_true h

theorem tabOk {c : Cx} (hP : c.P = Tryd.prog) : TabOk c.P T := by rw [hP]; exact tabOf_ok _

/-- What is known by hand, and copies. -/
noncomputable def prims08 : Callees := upd prims 68 (cloneV 1 1)

theorem prims08_ok {c : Cx} (hP : c.P = Tryd.prog) (hl : laidAt c) : CallOK c prims08 := by
  refine CallOK.or_nil (prims_ok hP hl) (limC_ok (P0 := noCallees) (F := tab68) (tabOk hP) (by rw [hP]; exact seatMixed) CallOK.none (fun f fi h => ?_)) (fun args B r h => ?_)
  · unfold tab68 at h
    cases hb : Nat.beq f 68 with
    | false => rw [hb] at h; cases h
    | true =>
      rw [hb] at h
      obtain rfl := beqT hb
      injection h with h; subst h
      rw [hP]; exact ok68
  · obtain ⟨xs, rfl, hr, rfl⟩ := cloneV_inv h
    have hH := limC_has (T := T) (P0 := noCallees) (F := tab68) (f := 68) (fi := fi68) rfl (fun _ _ => rfl)
    exact ⟨1, xs, rfl, hH _ _ _ (run68_real _ xs hr B), fun h0 => by subst h0; exact hH _ _ _ (run68_nil _ B)⟩

noncomputable def tab08 : FuncId → Option FI
  | 10 => some fi10
  | 102 => some fi102
  | 11 => some fi11
  | 12 => some fi12
  | 13 => some fi13
  | 14 => some fi14
  | 15 => some fi15
  | 17 => some fi17
  | 18 => some fi18
  | 19 => some fi19
  | 20 => some fi20
  | 21 => some fi21
  | 22 => some fi22
  | 38 => some fi38
  | 39 => some fi39
  | 40 => some fi40
  | 41 => some fi41
  | 42 => some fi42
  | 43 => some fi43
  | 44 => some fi44
  | 45 => some fi45
  | 46 => some fi46
  | 47 => some fi47
  | 48 => some fi48
  | 50 => some fi50
  | 51 => some fi51
  | 52 => some fi52
  | 53 => some fi53
  | 54 => some fi54
  | 55 => some fi55
  | 56 => some fi56
  | 65 => some fi65
  | 66 => some fi66
  | 67 => some fi67
  | 69 => some fi69
  | 70 => some fi70
  | 71 => some fi71
  | 72 => some fi72
  | 73 => some fi73
  | 78 => some fi78
  | 79 => some fi79
  | 83 => some fi83
  | 97 => some fi97
  | 3 => some fi3
  | 4 => some fi4
  | 5 => some fi5
  | _ => .none

theorem tab08_ok (f : FuncId) (fi : FI) (h : tab08 f = some fi) : FnOk Tryd.prog f fi := by
  unfold tab08 at h
  split at h <;> first | (injection h with h; subst h; first | exact ok10 | exact ok102 | exact ok11 | exact ok12 | exact ok13 | exact ok14 | exact ok15 | exact ok17 | exact ok18 | exact ok19 | exact ok20 | exact ok21 | exact ok22 | exact ok38 | exact ok39 | exact ok40 | exact ok41 | exact ok42 | exact ok43 | exact ok44 | exact ok45 | exact ok46 | exact ok47 | exact ok48 | exact ok50 | exact ok51 | exact ok52 | exact ok53 | exact ok54 | exact ok55 | exact ok56 | exact ok65 | exact ok66 | exact ok67 | exact ok69 | exact ok70 | exact ok71 | exact ok72 | exact ok73 | exact ok78 | exact ok79 | exact ok83 | exact ok97 | exact ok3 | exact ok4 | exact ok5) | cases h

noncomputable abbrev C08 : Callees := limC T prims08 tab08

theorem C08_ok {c : Cx} (hP : c.P = Tryd.prog) (hl : laidAt c) : CallOK c C08 := limC_ok (tabOk hP) (by rw [hP]; exact seatMixed) (prims08_ok hP hl) (fun f fi h => by rw [hP]; exact tab08_ok f fi h)

theorem has08 {f : FuncId} {fi : FI} (h : tab08 f = some fi) (h1 : Nat.beq 16 f = false) (h2 : Nat.beq 68 f = false) : Has T C08 f fi := limC_has h (fun args B => by
  unfold prims08 V.upd
  rw [h2]; exact prims_none h1 args B)

theorem roomy_bytes {n : Nat} (h : n ≤ 140737488351232) : roomy n 1 = true := by
  simp only [roomy, nble, decide_eq_true_eq]; omega

theorem known08 : Known08 C08 := by
  repeat' constructor
  all_goals first
    | exact has08 rfl rfl rfl
    | exact fun n B => limC_prim (prims_num n B)
    | exact fun l B h => limC_prim (by
        show prims08 _ _ _ = _
        simp only [prims08, V.upd, nbeq, decide_true, cond_true, cloneV, List.length_map, roomy_bytes (Nat.le_trans h (by decide)), and_self, if_true])

/-! ### Cells as an argument -/
theorem map_ce : ∀ (xs : List (List D)), (∀ x, x ∈ xs → x.length = 4) → (∀ (x : List D) (i : Nat) (l : Sh) (d : D), x ∈ xs → [Sh.str, Sh.str, Sh.int .i64, Sh.int .i64][i]? = some l → x[i]? = some d → OfSh l d) → ∃ l : List Ce, xs.map mkD = l.map ceD ∧ LongV l
  | [], _, _ => ⟨[], rfl, fun c hc => by cases hc⟩
  | x :: xs, h1, h2 => by
    obtain ⟨l, h3, h4⟩ := map_ce xs (fun y hy => h1 y (by simp [hy])) (fun y i l d hy => h2 y i l d (by simp [hy]))
    obtain ⟨a, b, c, d, rfl⟩ := len4 (h1 x (by simp))
    have q0 := h2 [a, b, c, d] 0 .str a (by simp) rfl rfl
    have q1 := h2 [a, b, c, d] 1 .str b (by simp) rfl rfl
    have q2 := h2 [a, b, c, d] 2 (.int .i64) c (by simp) rfl rfl
    have q3 := h2 [a, b, c, d] 3 (.int .i64) d (by simp) rfl rfl
    obtain ⟨k, rfl, _⟩ := OfSh.str' q0
    obtain ⟨v, rfl, hv⟩ := OfSh.str' q1
    obtain ⟨g, rfl, _, _⟩ := OfSh.i64 q2
    obtain ⟨p, rfl, _, _⟩ := OfSh.i64 q3
    refine ⟨⟨k, v, g, p⟩ :: l, by rw [List.map_cons, h3]; rfl, fun y hy => ?_⟩
    rcases List.mem_cons.1 hy with rfl | hy
    · exact hv
    · exact h4 y hy

set_option maxRecDepth 100000 in
theorem arg_cells {H : Type} {enc : TypeId × Value → H} {base : Nat} {spare : Nat → Bool} {held : Bool} {W : World} {r : Reach} {b0 : Nat} {v : Value} {d : DataW H} {ps : List MemPlace} (hval : Value.okWide Tryd.prog W r b0 22 v) (hd : DataW.Trod enc Tryd.prog W base spare held 22 v d ps) (hw : (d.weights Tryd.prog 22).all (· ≤ reachBytes) = true) :
    ∃ l : List Ce, l.length * 48 ≤ 140737488351232 ∧ LongV l ∧ Rep [] (sizeAt W) W (.vec 4 (l.map ceD) .none) v := by
  obtain ⟨x, h1, h2⟩ := arg_rows (n := 5) (e := 26) (ls := [.str, .str, .int .i64, .int .i64]) (by kernel_rfl) (by kernel_rfl) hval hd
  obtain ⟨xs, rfl, hl, h3, h4⟩ := h1.rows'
  obtain ⟨l, h5, h6⟩ := map_ce xs h3 h4
  rw [h5] at h2
  have h7 := slice_le (e := 26) (by kernel_rfl) hval hd hw h2
  have h8 : Program.bytesOf Tryd.prog 26 = 48 := by kernel_rfl
  rw [h8, List.length_map] at h7
  exact ⟨l, h7, h6, h2⟩

end Go.Proofs.YtfkhijjabkhmmaaDoor.V
