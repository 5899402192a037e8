/-
Layer 17: sure; BitsetParts, BitsetTakes.
-/
import Derived.Test.YtbbbhalmlboapaaDoorBE
namespace Go.Proofs.YtbbbhalmlboapaaDoor.V
open Go Go.RowKit
set_option linter.unusedSimpArgs false
set_option linter.unusedVariables false

/-! warren/warrenlaw17.sure -/
def an50 : An := ⟨fun _ => .none, fun _ => 0, fun _ => false, fun _ => .none⟩
noncomputable def fi50 : FI := ⟨0, 70, Tryd.f50.body.getD .skip, Tryd.f50.results.toList, an50, false, false⟩
theorem ok50 : FnOk Tryd.prog 50 fi50 := ⟨⟨Tryd.f50, Tryd.func50, by kernel_rfl, rfl, rfl, rfl⟩, by decide, by kernel_rfl, fun h => by cases h⟩
/-! warren/warrenlaw17.BitsetParts -/
def an10 : An := ⟨fun _ => .none, fun _ => 0, fun | 1 => true | _ => false, fun _ => .none⟩
noncomputable def fi10 : FI := ⟨3, 98, Tryd.f10.body.getD .skip, Tryd.f10.results.toList, an10, false, false⟩
theorem ok10 : FnOk Tryd.prog 10 fi10 := ⟨⟨Tryd.f10, Tryd.func10, by kernel_rfl, rfl, rfl, rfl⟩, by decide, by kernel_rfl, fun h => by cases h⟩
/-! warren/warrenlaw17.BitsetTakes -/
def an9 : An := ⟨fun | 13 => some [7, 11, 12, 14] | _ => .none, fun _ => 0, fun | 1 => true | _ => false, fun _ => .none⟩
noncomputable def fi9 : FI := ⟨3, 147, Tryd.f9.body.getD .skip, Tryd.f9.results.toList, an9, false, false⟩
theorem ok9 : FnOk Tryd.prog 9 fi9 := ⟨⟨Tryd.f9, Tryd.func9, by kernel_rfl, rfl, rfl, rfl⟩, by decide, by kernel_rfl, fun h => by cases h⟩
noncomputable def lp9_0 : Code := subC [1, 1, 1, 1, 1, 1, 1, 1, 0, 1, 0, 0] (Tryd.f9.body.getD .skip)   -- head 13 keep [7, 11, 12, 14]
structure Known17 (C : Callees) : Prop extends Ref17 C where
  f50 : Has T C 50 fi50
  num : ∀ (n : Nat) (B : Hp), C 52 [errD n] B = some (.int .i64 n, B)

variable {C : Callees}

theorem num0 (hC : Known17 C) (B : Hp) : C 52 [.nili] B = some (.int .i64 0, B) := hC.num 0 B
theorem num1 (hC : Known17 C) (B : Hp) : C 52 [.iface 102 (.int .i64 1)] B = some (.int .i64 1, B) := hC.num 1 B
theorem num8 (hC : Known17 C) (B : Hp) : C 52 [.iface 102 (.int .i64 8)] B = some (.int .i64 8, B) := hC.num 8 B

theorem eqS {s t : Nat → Nat} (h : ∀ i, i < 16 → s i = t i) : eqT T 6 75 (nums .u64 16 s) (nums .u64 16 t) = some true := by
  rw [eqT_nums (T := T) (j := 4) T75 rfl T66 rfl rfl s t, decide_eq_true h]

theorem ta_neg (hC : Lib17 C) {s : Nat → Nat} (hs : Wds s) {m : Int} (h : m < 0) (B : Hp) : C 51 [.agg (nums .u64 16 s), .int .i64 m] B = some (.tuple [.vec 1 [] .fresh, .agg (nums .u64 16 noS), .iface 102 (.int .i64 1)], B) := hC.f51 _ _ _ (run51_neg hC hs h B)
theorem ta_big (hC : Lib17 C) {s : Nat → Nat} (hs : Wds s) {m : Int} (h0 : ¬ m < 0) (h : m > (cnt s : Nat)) (B : Hp) : C 51 [.agg (nums .u64 16 s), .int .i64 m] B = some (.tuple [.vec 1 [] .fresh, .agg (nums .u64 16 noS), .iface 102 (.int .i64 8)], B) := hC.f51 _ _ _ (run51_big hC hs h0 h B)
theorem ta_ok (hC : Lib17 C) {s : Nat → Nat} (hs : Wds s) {m : Nat} (h : m ≤ cnt s) (B : Hp) : C 51 [.agg (nums .u64 16 s), .int .i64 m] B = some (.tuple [.vec 1 ((takL s m).map intD) (bif ((takL s m).map intD).isEmpty then .fresh else .none), .agg (nums .u64 16 (lessL s (takL s m))), .nili], B) := hC.f51 _ _ _ (run51_ok hC hs h B)

/-! ### sure -/
def sS : Nat → Nat := withN (beloS 3) 70
theorem sS_eq : sS = withS (beloS 3) 70 := rfl
theorem sS_w : Wds sS := with_w (belo_w 3) 70 (by decide)
theorem sS_lst : lst (mem sS) 1024 = [0, 1, 2, 70] := by kernel_rfl
theorem sS_cnt : cnt sS = 4 := by
  have := lst_len (mem sS) 1024
  rw [sS_lst] at this; exact this.symm
theorem sS_tak : takL sS 2 = [0, 1] := by unfold takL; rw [sS_lst]; rfl
theorem sS_less : cnt (lessL sS [0, 1]) = 2 := by
  have := lst_len (mem (lessL sS [0, 1])) 1024
  rw [show lst (mem (lessL sS [0, 1])) 1024 = [2, 70] by kernel_rfl] at this; exact this.symm
theorem sS_less_w : Wds (lessL sS [0, 1]) := (lessL_w [0, 1] sS_w (fun x hx => by
  simp only [List.mem_cons, List.mem_nil_iff, or_false] at hx
  rcases hx with rfl | rfl <;> decide)).1

set_option maxRecDepth 10000 in
set_option maxHeartbeats 1000000 in
theorem run50 (hC : Known17 C) (B : Hp) : runV T C fi50 [] B = some (.bool true, B) := by
  rw [e_run _ _ _ rfl]
  have hL := hC.toLib17
  have g1 : ∀ B, C 49 [.int .i64 3] B = some (.agg (nums .u64 16 (beloS 3)), B) := c49 hL 3
  have g2 : ∀ B, C 43 [.agg (nums .u64 16 (beloS 3)), .int .i64 70] B = some (.agg (nums .u64 16 sS), B) := c43 hL (belo_w 3) 70
  have g3 : ∀ B, C 51 [.agg (nums .u64 16 sS), .int .i64 2] B = some (.tuple [.vec 1 [.int .i64 0, .int .i64 1] .none, .agg (nums .u64 16 (lessL sS [0, 1])), .nili], B) := by
    have := ta_ok hL sS_w (m := 2) (by rw [sS_cnt]; decide)
    rw [sS_tak] at this; exact this
  have g4 : ∀ B, C 51 [.agg (nums .u64 16 sS), .int .i64 5] B = some (.tuple [.vec 1 [] .fresh, .agg (nums .u64 16 noS), .iface 102 (.int .i64 8)], B) := ta_big hL sS_w (m := 5) (by decide) (by rw [sS_cnt]; decide)
  have g5 : ∀ B, C 41 [.agg (nums .u64 16 sS)] B = some (.int .i64 4, B) := by
    have := c41 hL sS_w
    rw [sS_cnt] at this; exact this
  have g6 : ∀ B, C 42 [.agg (nums .u64 16 sS), .int .i64 70] B = some (.bool true, B) := by
    have := c42 hL sS_w 70
    rw [show hasS sS 70 = true by kernel_rfl] at this; exact this
  have g7 : ∀ B, C 42 [.agg (nums .u64 16 sS), .int .i64 3] B = some (.bool false, B) := by
    have := c42 hL sS_w 3
    rw [show hasS sS 3 = false by kernel_rfl] at this; exact this
  have g8 : ∀ B, C 41 [.agg (nums .u64 16 (lessL sS [0, 1]))] B = some (.int .i64 2, B) := by
    have := c41 hL sS_less_w
    rw [sS_less] at this; exact this
  have g9 := num8 hC
  have g10 : ∀ B, C 43 [.agg (nums .u64 16 sS), .int .i64 (-1)] B = some (.agg (nums .u64 16 sS), B) := c43 hL sS_w (-1)
  have q1 := eqS (s := sS) (t := sS) (fun _ _ => rfl)
  have g11 : (nums .u64 16 sS)[1]? = some (.int .u64 64) := by
    have := nums_get (k := .u64) (m := sS) (i := 1) (n := 16) (by decide)
    rw [show sS 1 = 64 by kernel_rfl] at this; exact this
  have h2 : ((2 : Nat) : Int) = 2 := rfl
  simp only [fi50, Tryd.f50, an50, h2, g1, g2, g3, g4, g5, g6, g7, g8, g9, g10, g11, q1, AL, T3, T4, T24, T66, T70, T75, EL, List.replicate_succ, stepD, accs, accP, accW, simpleOp, isAl, isExt, flipD, D.fresh1, D.row, D.plain, D.plain.plainL, St.close, St.close1, St.borrow, retV, resV, resL, outCL, outC, outL, outD, wantedV, opV, An.mid, thawV, D.plainU, prune, envOf, get, put, eval, evalT, nz, argsV, capsV, ofV, binV, binV.aggV, unV, intV, eqOp, isConst, natV, optV, loadV, loadC, storeV, St.at_, partV, partTy, indexAddrV, fieldAddrV, sliceV, sliceV.rowSl, sliceV.strSl, bounds, cutP, builtinV, lenV, maxL, maxV, appendV, St.elems, roomy, rowOf, rowS, isStr, esz, tdOf, convV, buildV, fillV, partsV, okParts, fillL, D.whole, D.demoteC, D.demote, demoteL, D.global, D.flat, D.leaf, D.cells, TI.agg, TD.rowish, callOpV, moveL, CC, keepB, St.borrowL, St.borrow, D.isLsl, adoptR, adoptC, adoptCL, adoptL, adopt, List.toArray, Array.toList, Nat.reduceEqDiff, Nat.reduceAdd, Nat.reduceSub, Nat.reduceMul, Nat.reduceLeDiff, Nat.reduceLT, reduceIte, reduceCtorEq, forall_const, imp_self, Int.reduceNeg, Int.reduceLT, Int.reduceLE, Int.reduceGT, Int.reduceGE, Int.reduceAdd, Int.reduceSub, Int.reduceMul, Int.reduceToNat, Int.reduceEq, ne_eq, eq_self]

theorem c50 (hC : Known17 C) (B : Hp) : C 50 [] B = some (.bool true, B) := hC.f50 _ _ _ (run50 hC B)

/-! ### BitsetParts -/
theorem tmod1025 (x : Nat) : (x : Int).tmod 1025 = ((x % 1025 : Nat) : Int) := by rw [Int.tmod_eq_emod_of_nonneg (by omega)]; omega
theorem clip_n {n : Nat} (h : n ≤ 1024) : clip (n : Int) = n := by unfold clip; omega

set_option maxRecDepth 10000 in
set_option maxHeartbeats 4000000 in
theorem run10 (hC : Known17 C) (a b c : Nat → Nat) (ha : Wds a) (hb : Wds b) (hc : Wds c) (B : Hp) : runV T C fi10 [sD a, sD b, sD c] B = some (.bool true, B) := by
  rw [e_run _ _ _ rfl]
  have hL := hC.toLib17
  have e4 := c50 hC
  have hbc := eith_w hb hc
  have hab := less_w (t := b) ha
  have hac := less_w (t := c) ha
  have kab := both_w (t := b) ha
  have kac := both_w (t := c) ha
  have c1 := c47 hL hb hc
  have c2 := c48 hL ha hbc
  have c3 := c48 hL ha hb
  have c4 := c48 hL ha hc
  have c5 := c46 hL hab hac
  have q1 := eqS (set_ext (less_w (t := eithS b c) ha) (both_w (t := lessS a c) hab) (fun n hn => by
    rw [mem_less ha hbc hn, mem_eith, mem_both, mem_less ha hb hn, mem_less ha hc hn]
    cases mem a n <;> cases mem b n <;> cases mem c n <;> rfl))
  have c6 := c46 hL ha hbc
  have c7 := c46 hL ha hb
  have c8 := c46 hL ha hc
  have c9 := c47 hL kab kac
  have q2 := eqS (set_ext (both_w (t := eithS b c) ha) (eith_w kab kac) (fun n hn => by
    rw [mem_both, mem_eith, mem_eith, mem_both, mem_both]
    cases mem a n <;> cases mem b n <;> cases mem c n <;> rfl))
  have g1 := nums_get (k := .u64) (m := a) (i := 15) (n := 16) (by decide)
  have t1 := tmod1025 (a 15)
  have hn : a 15 % 1025 ≤ 1024 := by omega
  generalize a 15 % 1025 = n at *
  have w1 : IntKind.i64.wrap (n : Int) = n := wrapI (by omega) (by omega)
  have c10 := c49 hL n
  rw [clip_n hn] at c10
  have kan := both_w (t := beloS n) ha
  have han := less_w (t := beloS n) ha
  have c11 := c46 hL ha (belo_w n)
  have c12 := c48 hL ha (belo_w n)
  have c13 := c41 hL kab
  have c14 := c47 hL ha hb
  have c15 := c41 hL (eith_w ha hb)
  have c16 := c41 hL ha
  have c17 := c41 hL hb
  have c18 := c47 hL kan han
  have c19 := c41 hL kan
  have c20 := c41 hL han
  have c21 := c41 hL (belo_w n)
  rw [cnt_belo hn] at c21
  have q3 := eqS (set_ext (eith_w kan han) ha (fun k hk => by
    rw [mem_eith, mem_both, mem_less ha (belo_w n) hk]
    cases mem a k <;> cases mem (beloS n) k <;> rfl))
  have m1 := cnt_both_eith a b
  have m2 := cnt_both_less ha (belo_w n)
  have l1 := cnt_le a
  have l2 := cnt_le b
  have w2 : IntKind.i64.wrap (((cnt (bothS a b) : Nat) : Int) + ((cnt (eithS a b) : Nat) : Int)) = ((cnt a + cnt b : Nat) : Int) := by rw [wrapI (by omega) (by omega)]; omega
  have w3 : IntKind.i64.wrap (((cnt a : Nat) : Int) + ((cnt b : Nat) : Int)) = ((cnt a + cnt b : Nat) : Int) := by rw [wrapI (by omega) (by omega)]; omega
  have w4 : IntKind.i64.wrap (((cnt (bothS a (beloS n)) : Nat) : Int) + ((cnt (lessS a (beloS n)) : Nat) : Int)) = ((cnt a : Nat) : Int) := by rw [wrapI (by omega) (by omega)]; omega
  simp only [fi10, Tryd.f10, an10, e4, c1, c2, c3, c4, c5, c6, c7, c8, c9, c10, c11, c12, c13, c14, c15, c16, c17, c18, c19, c20, c21, q1, q2, q3, g1, t1, w1, w2, w3, w4, AL, T3, T66, T67, T75, EL, List.replicate_succ, stepD, accs, accP, accW, simpleOp, isAl, isExt, flipD, D.fresh1, D.row, D.plain, D.plain.plainL, St.close, St.close1, St.borrow, retV, resV, resL, outCL, outC, outL, outD, wantedV, opV, An.mid, thawV, D.plainU, prune, envOf, get, put, eval, evalT, nz, argsV, capsV, ofV, binV, binV.aggV, unV, intV, eqOp, isConst, natV, optV, loadV, loadC, storeV, St.at_, partV, partTy, indexAddrV, fieldAddrV, sliceV, sliceV.rowSl, sliceV.strSl, bounds, cutP, builtinV, lenV, maxL, maxV, appendV, St.elems, roomy, rowOf, rowS, isStr, esz, tdOf, convV, buildV, fillV, partsV, okParts, fillL, D.whole, D.demoteC, D.demote, demoteL, D.global, D.flat, D.leaf, D.cells, TI.agg, TD.rowish, callOpV, moveL, CC, keepB, St.borrowL, St.borrow, D.isLsl, adoptR, adoptC, adoptCL, adoptL, adopt, List.toArray, Array.toList, Nat.reduceEqDiff, Nat.reduceAdd, Nat.reduceSub, Nat.reduceMul, Nat.reduceLeDiff, Nat.reduceLT, reduceIte, reduceCtorEq, forall_const, imp_self, Int.reduceNeg, Int.reduceLT, Int.reduceLE, Int.reduceGT, Int.reduceGE, Int.reduceAdd, Int.reduceSub, Int.reduceMul, Int.reduceToNat, Int.reduceEq, ne_eq, eq_self]
  refine' dyn_done (fin T _ _ _) ?hd ?he
  case hd => kernel_rfl
  simp only [e4, c1, c2, c3, c4, c5, c6, c7, c8, c9, c10, c11, c12, c13, c14, c15, c16, c17, c18, c19, c20, c21, q1, q2, q3, g1, t1, w1, w2, w3, w4, AL, T3, T66, T67, T75, EL, List.replicate_succ, stepD, accs, accP, accW, simpleOp, isAl, isExt, flipD, D.fresh1, D.row, D.plain, D.plain.plainL, St.close, St.close1, St.borrow, retV, resV, resL, outCL, outC, outL, outD, wantedV, opV, An.mid, thawV, D.plainU, prune, envOf, get, put, eval, evalT, nz, argsV, capsV, ofV, binV, binV.aggV, unV, intV, eqOp, isConst, natV, optV, loadV, loadC, storeV, St.at_, partV, partTy, indexAddrV, fieldAddrV, sliceV, sliceV.rowSl, sliceV.strSl, bounds, cutP, builtinV, lenV, maxL, maxV, appendV, St.elems, roomy, rowOf, rowS, isStr, esz, tdOf, convV, buildV, fillV, partsV, okParts, fillL, D.whole, D.demoteC, D.demote, demoteL, D.global, D.flat, D.leaf, D.cells, TI.agg, TD.rowish, callOpV, moveL, CC, keepB, St.borrowL, St.borrow, D.isLsl, adoptR, adoptC, adoptCL, adoptL, adopt, List.toArray, Array.toList, Nat.reduceEqDiff, Nat.reduceAdd, Nat.reduceSub, Nat.reduceMul, Nat.reduceLeDiff, Nat.reduceLT, reduceIte, reduceCtorEq, forall_const, imp_self, Int.reduceNeg, Int.reduceLT, Int.reduceLE, Int.reduceGT, Int.reduceGE, Int.reduceAdd, Int.reduceSub, Int.reduceMul, Int.reduceToNat, Int.reduceEq, ne_eq, eq_self]

end Go.Proofs.YtbbbhalmlboapaaDoor.V
