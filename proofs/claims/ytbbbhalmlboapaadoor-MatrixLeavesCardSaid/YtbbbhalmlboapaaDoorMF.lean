/-
Layer 31: sure; MatrixTells.
-/
import Derived.Test.YtbbbhalmlboapaaDoorME
namespace Go.Proofs.YtbbbhalmlboapaaDoor.V
open Go Go.RowKit
set_option linter.unusedSimpArgs false
set_option linter.unusedVariables false

/-! warren/warrenlaw31.sure -/
def an37 : An := ⟨fun _ => .none, fun _ => 0, fun _ => false, fun _ => .none⟩
noncomputable def fi37 : FI := ⟨0, 65, Tryd.f37.body.getD .skip, Tryd.f37.results.toList, an37, false, false⟩
theorem ok37 : FnOk Tryd.prog 37 fi37 := ⟨⟨Tryd.f37, Tryd.func37, by kernel_rfl, rfl, rfl, rfl⟩, by decide, by kernel_rfl, fun h => by cases h⟩
/-! warren/warrenlaw31.MatrixTells -/
def an5 : An := ⟨fun | 14 => some [2, 3, 7, 17, 19, 20, 21, 23, 24, 25, 26] | 19 => some [2, 3, 7, 17, 19, 20, 21, 23, 24, 25, 26, 27] | _ => .none, fun _ => 0, fun _ => false, fun _ => .none⟩
noncomputable def fi5 : FI := ⟨3, 228, Tryd.f5.body.getD .skip, Tryd.f5.results.toList, an5, false, false⟩
theorem ok5 : FnOk Tryd.prog 5 fi5 := ⟨⟨Tryd.f5, Tryd.func5, by kernel_rfl, rfl, rfl, rfl⟩, by decide, by kernel_rfl, fun h => by cases h⟩
noncomputable def lp5_0 : Code := subC [1, 1, 1, 1, 1, 1, 1, 1, 1, 1, 1, 1, 0, 1, 0, 0] (Tryd.f5.body.getD .skip)   -- head 14 keep [2, 3, 7, 17, 19, 20, 21, 23, 24, 25, 26]
noncomputable def lp5_1 : Code := subC [1, 1, 1, 1, 1, 1, 1, 1, 1, 1, 1, 1, 0, 1, 0, 0, 1, 0, 0, 1, 1, 0, 0] (Tryd.f5.body.getD .skip)   -- head 19 keep [2, 3, 7, 17, 19, 20, 21, 23, 24, 25, 26, 27]
structure Known31 (C : Callees) : Prop extends Ref31 C where
  f37 : Has T C 37 fi37
  num : ∀ (n : Nat) (B : Hp), C 30 [errD n] B = some (.int .i64 n, B)

variable {C : Callees}

theorem num0 (hC : Known31 C) (B : Hp) : C 30 [.nili] B = some (.int .i64 0, B) := hC.num 0 B
theorem num1 (hC : Known31 C) (B : Hp) : C 30 [.iface 102 (.int .i64 1)] B = some (.int .i64 1, B) := hC.num 1 B

abbrev zM : Nat → Nat := fun _ => 0
theorem tb_z (p q : Nat) : tb zM p q = false := Nat.zero_testBit _
theorem bnd_z : Bnd zM := fun _ _ => by show 0 < 65536; decide
theorem may_z : May zM := fun p q _ _ => by rw [tb_z, tb_z, tb_z]; exact ⟨rfl, rfl⟩

/-! ### sure -/
def m1 : Nat → Nat := opn zM 0 1
def m2 : Nat → Nat := opn m1 1 2
theorem bnd1 : Bnd m1 := opn_bnd bnd_z (by decide) (by decide)
theorem bnd2 : Bnd m2 := opn_bnd bnd1 (by decide) (by decide)
theorem may1 : May m1 := may_opn may_z (by decide)
theorem may2 : May m2 := may_opn may1 (by decide)
theorem tb2 (p q : Nat) : tb m2 p q = ((decide (p = 0) && decide (q = 1)) || (decide (p = 1) && decide (q = 0)) || (decide (p = 1) && decide (q = 2)) || (decide (p = 2) && decide (q = 1))) := by
  unfold m2 m1
  rw [tb_opn (by decide), tb_opn (by decide), tb_z, Bool.false_or]
theorem grp2 : grp m2 0 = 7 := by
  refine bits_ext (n := 16) grp_lt (by decide) (fun i hi => ?_)
  rw [grp_bit hi, Bool.eq_iff_iff, joinB_t]
  have h01 : Joins m2 0 1 := .step .refl (by decide) (by decide) (by rw [tb2]; rfl)
  have h02 : Joins m2 0 2 := .step h01 (by decide) (by decide) (by rw [tb2]; rfl)
  constructor
  · intro h
    have := joins_in (s := fun p => decide (p < 3)) (by rfl) (fun x y hx hy h1 h2 => by
      rw [tb2] at h2
      simp only [Bool.or_eq_true, Bool.and_eq_true, decide_eq_true_eq] at h1 h2 ⊢
      omega) h
    simp only [decide_eq_true_eq] at this
    have : ∀ i, i < 3 → (7 : Nat).testBit i = true := by decide
    exact this i (by assumption)
  · intro h
    have h3 : ∀ i, i < 16 → (7 : Nat).testBit i = true → i < 3 := by decide
    have := h3 i hi h
    rcases (by omega : i = 0 ∨ i = 1 ∨ i = 2) with rfl | rfl | rfl
    · exact .refl
    · exact h01
    · exact h02

set_option maxRecDepth 10000 in
set_option maxHeartbeats 1000000 in
theorem run37 (hC : Known31 C) (B : Hp) : runV T C fi37 [] B = some (.bool true, B) := by
  rw [e_run _ _ _ rfl]
  have hL := hC.toLib31
  have g1 : ∀ B, C 24 [.agg (nums .u16 16 (fun _ => 0)), .int .i64 0, .int .i64 1] B = some (.tuple [.agg (nums .u16 16 m1), .nili], B) := op_t hL bnd_z (a := 0) (b := 1) (by decide) (by decide) (by decide) (mayM_t.2 may_z)
  have g2 : ∀ B, C 24 [.agg (nums .u16 16 m1), .int .i64 1, .int .i64 2] B = some (.tuple [.agg (nums .u16 16 m2), .nili], B) := op_t hL bnd1 (a := 1) (b := 2) (by decide) (by decide) (by decide) (mayM_t.2 may1)
  have g3 : ∀ B, C 27 [.agg (nums .u16 16 m2), .int .i64 0] B = some (.tuple [.int .u16 7, .nili], B) := by
    have := gr_t hL bnd2 (a := 0) (by decide) (mayM_t.2 may2)
    rw [grp2] at this; exact this
  have g4 : ∀ B, C 24 [.agg (nums .u16 16 m2), .int .i64 3, .int .i64 3] B = some (.tuple [.agg (nums .u16 16 zeroM), .iface 102 (.int .i64 1)], B) := op_f hL bnd2 (a := 3) (b := 3) (by simp [twoS])
  have g5 : ∀ B, C 31 [.agg (nums .u16 16 m2), .int .i64 0, .int .i64 1] B = some (.bool true, B) := by
    have := c31 hL bnd2 0 1
    rw [show seesS m2 0 1 = true by unfold seesS; rw [mayM_t.2 may2, show (0 : Int).toNat = 0 from rfl, show (1 : Int).toNat = 1 from rfl, tb2]; rfl] at this
    exact this
  have g6 : ∀ B, C 31 [.agg (nums .u16 16 m2), .int .i64 0, .int .i64 2] B = some (.bool false, B) := by
    have := c31 hL bnd2 0 2
    rw [show seesS m2 0 2 = false by unfold seesS; rw [mayM_t.2 may2, show (0 : Int).toNat = 0 from rfl, show (2 : Int).toNat = 2 from rfl, tb2]; rfl] at this
    exact this
  have g7 : ∀ B, C 36 [.agg (nums .u16 16 m2), .int .u16 7] B = some (.bool true, B) := by
    have := c36 hL bnd2 (s := 7) (by decide)
    rw [show aptS m2 7 = true by
      rw [apt_t]; exact ⟨mayM_t.2 may2, by rw [← grp2]; exact apt_grp⟩] at this
    exact this
  have g8 : ∀ B, C 36 [.agg (nums .u16 16 m2), .int .u16 1] B = some (.bool false, B) := by
    have := c36 hL bnd2 (s := 1) (by decide)
    rw [show aptS m2 1 = false by
      rw [Bool.eq_false_iff, ne_eq, apt_t]
      intro h
      have := h.2 0 1 (by decide) (by decide) (by decide) (by rw [tb2]; rfl)
      exact absurd this (by decide)] at this
    exact this
  have g9 := num1 hC
  simp only [fi37, Tryd.f37, an37, g1, g2, g3, g4, g5, g6, g7, g8, g9, AL, T3, T4, T24, T39, T42, EL, List.replicate_succ, stepD, accs, accP, accW, simpleOp, isAl, isExt, flipD, D.fresh1, D.row, D.plain, D.plain.plainL, St.close, St.close1, St.borrow, retV, resV, resL, outCL, outC, outL, outD, wantedV, opV, An.mid, thawV, D.plainU, prune, envOf, get, put, eval, evalT, nz, argsV, capsV, ofV, binV, binV.aggV, unV, intV, eqOp, isConst, natV, optV, loadV, loadC, storeV, St.at_, partV, partTy, indexAddrV, fieldAddrV, sliceV, sliceV.rowSl, sliceV.strSl, bounds, cutP, builtinV, lenV, maxL, maxV, appendV, St.elems, roomy, rowOf, rowS, isStr, esz, tdOf, convV, buildV, fillV, partsV, okParts, fillL, D.whole, D.demoteC, D.demote, demoteL, D.global, D.flat, D.leaf, D.cells, TI.agg, TD.rowish, callOpV, moveL, CC, keepB, St.borrowL, St.borrow, D.isLsl, adoptR, adoptC, adoptCL, adoptL, adopt, List.toArray, Array.toList, Nat.reduceEqDiff, Nat.reduceAdd, Nat.reduceSub, Nat.reduceMul, Nat.reduceLeDiff, Nat.reduceLT, reduceIte, reduceCtorEq, forall_const, imp_self, Int.reduceNeg, Int.reduceLT, Int.reduceLE, Int.reduceGT, Int.reduceGE, Int.reduceAdd, Int.reduceSub, Int.reduceMul, Int.reduceToNat, Int.reduceEq, ne_eq, eq_self]

theorem c37 (hC : Known31 C) (B : Hp) : C 37 [] B = some (.bool true, B) := hC.f37 _ _ _ (run37 hC B)

/-! ### MatrixTells -/
/-- What the loops go by. -/
def Good (m : Nat → Nat) (jj c : Nat) (dg : Nat → Bool) (ml : Nat → Nat) (ai : Int) : Prop :=
  (jj = 0 ∧ c < 65536 ∧ (∀ p, p < 16 → c.testBit p = dg p) ∧ ∃ i, i < 16 ∧ ai = (i : Nat) ∧ ∀ p q, p < 16 → q < 16 → tb ml p q = (tb m p q && !decide (p = i) && !decide (q = i))) ∨ (jj = 1 ∧ c = 0 ∧ ml = zM)

def okP (m : Nat → Nat) (s p q : Nat) : Prop := ¬ (tb m p q = true ∧ s.testBit p = true ∧ s.testBit q = false)
def apI (m : Nat → Nat) (s p q : Nat) (ap : Bool) : Prop := ap = true ↔ (mayM m = true ∧ ∀ x y, x < 16 → y < 16 → (x < p ∨ x = p ∧ y < q) → okP m s x y)
/-- The next one. -/
def apN (ap t x y : Bool) : Bool := ap && !(t && x && !y)

theorem apI.next {m : Nat → Nat} {s p q : Nat} {ap : Bool} (h : apI m s p q ap) (hp : p < 16) (hq : q < 16) : apI m s p (q + 1) (apN ap (tb m p q) (s.testBit p) (s.testBit q)) := by
  unfold apI apN at *
  rw [Bool.and_eq_true, h]
  constructor
  · rintro ⟨⟨h1, h2⟩, h3⟩
    refine ⟨h1, fun x y hx hy hxy => ?_⟩
    by_cases e : x = p ∧ y = q
    · obtain ⟨rfl, rfl⟩ := e
      unfold okP
      rintro ⟨h4, h5, h6⟩
      rw [h4, h5, h6] at h3; cases h3
    · exact h2 x y hx hy (by omega)
  · rintro ⟨h1, h2⟩
    refine ⟨⟨h1, fun x y hx hy hxy => h2 x y hx hy (by omega)⟩, ?_⟩
    have := h2 p q hp hq (by omega)
    unfold okP at this
    cases e1 : tb m p q <;> cases e2 : s.testBit p <;> cases e3 : s.testBit q <;> simp_all
theorem apI.row {m : Nat → Nat} {s p : Nat} {ap : Bool} (h : apI m s p 16 ap) : apI m s (p + 1) 0 ap := by
  unfold apI at *
  rw [h]
  exact ⟨fun ⟨h1, h2⟩ => ⟨h1, fun x y hx hy hxy => h2 x y hx hy (by omega)⟩, fun ⟨h1, h2⟩ => ⟨h1, fun x y hx hy hxy => h2 x y hx hy (by omega)⟩⟩
theorem apI.first {m : Nat → Nat} {s : Nat} : apI m s 0 0 (mayM m) := by
  unfold apI
  exact ⟨fun h => ⟨h, fun x y _ _ hxy => by omega⟩, fun h => h.1⟩
theorem apI.last {m : Nat → Nat} {s : Nat} {ap : Bool} (h : apI m s 16 0 ap) : ap = aptS m s := by
  unfold apI at h
  rw [Bool.eq_iff_iff, h]
  rw [apt_t]
  constructor
  · rintro ⟨h1, h2⟩
    refine ⟨h1, fun p q hp hq h3 h4 => ?_⟩
    cases e : s.testBit q with
    | true => rfl
    | false => exact absurd ⟨h4, h3, e⟩ (h2 p q hp hq (by omega))
  · rintro ⟨h1, h2⟩
    refine ⟨h1, fun x y hx hy _ => ?_⟩
    rintro ⟨h3, h4, h5⟩
    rw [h2 x y hx hy h4 h3] at h5; cases h5

theorem tbit0 {v b : Nat} : (((v / 2 ^ b : Nat) : Int).tmod 2 = 0) = (v.testBit b = false) := by
  rw [tmod2, Nat.testBit_eq_decide_div_mod_eq, decide_eq_false_iff_not]
  exact propext ⟨fun h => by omega, fun h => by omega⟩
theorem u16_shr {v p : Nat} (h : p < 16) : shrV .u16 (v : Int) (p : Int) = ((v / 2 ^ p : Nat) : Int) := shr_nat .u16 v p (by show p ≤ 16; omega)

abbrev tlL (m : Nat → Nat) (dg : Nat → Bool) (ml : Nat → Nat) : List (Option (List D)) := [some (nums .u16 16 m), some (bools 16 dg), some (nums .u16 16 ml), some (bools 256 (ofS m)), some (bools 256 (ofS ml))]
def st5 (B : Hp) (m : Nat → Nat) (dg : Nat → Bool) (ml : Nat → Nat) (s jj c : Nat) (ai : Int) (x : Nat × Bool) : St :=
  ⟨[(2, .int .u16 s), (3, .lptr 0 0), (7, .int .i64 ai), (17, .int .u16 c), (19, .lptr 1 0), (20, .int .i64 jj), (21, .lptr 2 0), (23, .lptr 3 0), (24, .lptr 4 0), (25, .bool x.2), (26, .int .i64 x.1)], tlL m dg ml, [], B⟩
def st5_1 (B : Hp) (m : Nat → Nat) (dg : Nat → Bool) (ml : Nat → Nat) (s jj c : Nat) (ai : Int) (p : Nat) (x : Nat × Bool) : St :=
  ⟨[(2, .int .u16 s), (3, .lptr 0 0), (7, .int .i64 ai), (17, .int .u16 c), (19, .lptr 1 0), (20, .int .i64 jj), (21, .lptr 2 0), (23, .lptr 3 0), (24, .lptr 4 0), (25, .bool x.2), (26, .int .i64 p), (27, .int .i64 x.1)], tlL m dg ml, [], B⟩

set_option maxRecDepth 10000 in
set_option maxHeartbeats 2000000 in
theorem loop5_1 (C : Callees) (B : Hp) {m : Nat → Nat} (hm : Bnd m) {dg : Nat → Bool} {ml : Nat → Nat} {s jj c : Nat} {ai : Int} (hs : s < 65536) (hG : Good m jj c dg ml ai) {p : Nat} (hp : p < 16) (ap : Bool) (h0 : apI m s p 0 ap) (st : St) (hst : an5.at_ (some 19) st = st5_1 B m dg ml s jj c ai p (0, ap)) :
    ∃ x st', loopC T an5 C lp5_1 st = some (x, st') ∧ x = .exit 2 ∧ ∃ ρ ap', st' = ⟨ρ, tlL m dg ml, [], B⟩ ∧ apI m s p 16 ap' ∧ get ρ 2 = .int .u16 s ∧ get ρ 3 = .lptr 0 0 ∧ get ρ 7 = .int .i64 ai ∧ get ρ 17 = .int .u16 c ∧ get ρ 19 = .lptr 1 0 ∧ get ρ 20 = .int .i64 jj ∧ get ρ 21 = .lptr 2 0 ∧ get ρ 23 = .lptr 3 0 ∧ get ρ 24 = .lptr 4 0 ∧ get ρ 25 = .bool ap' ∧ get ρ 26 = .int .i64 p := by
  refine loop_rule (st5_1 B m dg ml s jj c ai p) (fun x => x.1 ≤ 16 ∧ apI m s p x.1 x.2) (fun x => 16 - x.1) _ ?_ (0, ap) st hst ⟨by simp, h0⟩
  rintro ⟨q, ap⟩ ⟨hq, hI⟩
  simp only at hq hI
  rcases Nat.lt_or_ge q 16 with h | h
  · left
    refine ⟨(q + 1, apN ap (tb m p q) (s.testBit p) (s.testBit q)), ?_, ⟨by show q + 1 ≤ 16; omega, hI.next hp h⟩, by show 16 - (q + 1) < 16 - q; omega⟩
    clear hI
    have g0 : (q : Int) < 16 := by omega
    have w1 : IntKind.i64.wrap ((q : Int) + 1) = ((q + 1 : Nat) : Int) := by rw [wrapI (by omega) (by omega)]; rfl
    have w2 : IntKind.u64.wrap (p : Int) = p := wrap_u64 (by omega) (by omega)
    have w3 : IntKind.u64.wrap (q : Int) = q := wrap_u64 (by omega) (by omega)
    have l2 : ¬ (p : Int) < 0 := by omega
    have l3 : ¬ (q : Int) < 0 := by omega
    have n1 := nat0 p
    have n2 := nat0 q
    have hpq : p * 16 + q < 256 := by omega
    have g1 := bools_get (p := ofS m) hpq
    rw [ofS_at h] at g1
    have x1 := u16_shr (v := s) hp
    have x2 := u16_shr (v := s) h
    have z1 := tbit (v := s) (b := p)
    have z2 := tbit0 (v := s) (b := q)
    rcases hG with ⟨rfl, hc, hd, i, hi, rfl, hml⟩ | ⟨rfl, rfl, rfl⟩
    · have g2 := bools_get (p := ofS ml) hpq
      rw [ofS_at h, hml p q hp h] at g2
      have j0 : ((0 : Nat) : Int) = 0 := rfl
      have e1 : ((p : Int) = i) = (p = i) := propext ⟨fun h => by omega, fun h => by omega⟩
      have e2 : ((q : Int) = i) = (q = i) := propext ⟨fun h => by omega, fun h => by omega⟩
      generalize tb m p q = t0 at g1 g2
      generalize s.testBit p = sp at z1
      generalize s.testBit q = sq at z2
      cases t0
      · cases ap
        · simp only [st5_1, lp5_1, subC, atC, Tryd.f5, an5, g0, w1, w2, w3, l2, l3, n1, n2, hp, h, hpq, g1, x1, x2, z1, z2, g2, j0, e1, e2, AL, T3, T4, T24, T39, T40, T41, T42, T49, T57, T59, EL, List.replicate_succ, stepD, accs, accP, accW, simpleOp, isAl, isExt, flipD, D.fresh1, D.row, D.plain, D.plain.plainL, St.close, St.close1, St.borrow, retV, resV, resL, outCL, outC, outL, outD, wantedV, opV, An.mid, thawV, D.plainU, prune, envOf, get, put, eval, evalT, nz, argsV, capsV, ofV, binV, binV.aggV, unV, intV, eqOp, isConst, natV, optV, loadV, loadC, storeV, setC, St.at_, partV, partTy, indexAddrV, fieldAddrV, sliceV, sliceV.rowSl, sliceV.strSl, bounds, cutP, builtinV, lenV, maxL, maxV, appendV, St.elems, roomy, rowOf, rowS, isStr, esz, tdOf, convV, buildV, fillV, partsV, okParts, fillL, D.whole, D.demoteC, D.demote, demoteL, D.global, D.flat, D.leaf, D.cells, TI.agg, TD.rowish, callOpV, moveL, CC, keepB, St.borrowL, St.borrow, D.isLsl, adoptR, adoptC, adoptCL, adoptL, adopt, List.toArray, Array.toList, Nat.reduceEqDiff, Nat.reduceAdd, Nat.reduceSub, Nat.reduceMul, Nat.reduceLeDiff, Nat.reduceLT, reduceIte, reduceCtorEq, forall_const, imp_self, Int.reduceNeg, Int.reduceLT, Int.reduceLE, Int.reduceGT, Int.reduceGE, Int.reduceAdd, Int.reduceSub, Int.reduceMul, Int.reduceToNat, Int.reduceEq, ne_eq, eq_self]
          refine ⟨_, rfl, ?_⟩
          show an5.at_ (some 19) _ = _
          simp only [an5, ren_map, toks_map, boxes_map, tlL, apN, AL, An.at_, tidyV, tidyW, tidyB, tidyT, sift, envBoxes, envToks, conToks, D.toks, D.tok1, toksL, D.boxes, D.box1, boxesL, memN, posN, renE, D.ren, D.ren1, renL, renB, St.content, St.boxOk, St.tokOk, trues, T3, T4, T24, T39, T40, T41, T42, T49, T57, T59, EL, List.replicate_succ, stepD, accs, accP, accW, simpleOp, isAl, isExt, flipD, D.fresh1, D.row, D.plain, D.plain.plainL, St.close, St.close1, St.borrow, retV, resV, resL, outCL, outC, outL, outD, wantedV, opV, An.mid, thawV, D.plainU, prune, envOf, get, put, eval, evalT, nz, argsV, capsV, ofV, binV, binV.aggV, unV, intV, eqOp, isConst, natV, optV, loadV, loadC, storeV, setC, St.at_, partV, partTy, indexAddrV, fieldAddrV, sliceV, sliceV.rowSl, sliceV.strSl, bounds, cutP, builtinV, lenV, maxL, maxV, appendV, St.elems, roomy, rowOf, rowS, isStr, esz, tdOf, convV, buildV, fillV, partsV, okParts, fillL, D.whole, D.demoteC, D.demote, demoteL, D.global, D.flat, D.leaf, D.cells, TI.agg, TD.rowish, callOpV, moveL, CC, keepB, St.borrowL, St.borrow, D.isLsl, adoptR, adoptC, adoptCL, adoptL, adopt, List.toArray, Array.toList, Nat.reduceEqDiff, Nat.reduceAdd, Nat.reduceSub, Nat.reduceMul, Nat.reduceLeDiff, Nat.reduceLT, reduceIte, reduceCtorEq, forall_const, imp_self, Int.reduceNeg, Int.reduceLT, Int.reduceLE, Int.reduceGT, Int.reduceGE, Int.reduceAdd, Int.reduceSub, Int.reduceMul, Int.reduceToNat, Int.reduceEq, ne_eq, eq_self]
        · simp only [st5_1, lp5_1, subC, atC, Tryd.f5, an5, g0, w1, w2, w3, l2, l3, n1, n2, hp, h, hpq, g1, x1, x2, z1, z2, g2, j0, e1, e2, AL, T3, T4, T24, T39, T40, T41, T42, T49, T57, T59, EL, List.replicate_succ, stepD, accs, accP, accW, simpleOp, isAl, isExt, flipD, D.fresh1, D.row, D.plain, D.plain.plainL, St.close, St.close1, St.borrow, retV, resV, resL, outCL, outC, outL, outD, wantedV, opV, An.mid, thawV, D.plainU, prune, envOf, get, put, eval, evalT, nz, argsV, capsV, ofV, binV, binV.aggV, unV, intV, eqOp, isConst, natV, optV, loadV, loadC, storeV, setC, St.at_, partV, partTy, indexAddrV, fieldAddrV, sliceV, sliceV.rowSl, sliceV.strSl, bounds, cutP, builtinV, lenV, maxL, maxV, appendV, St.elems, roomy, rowOf, rowS, isStr, esz, tdOf, convV, buildV, fillV, partsV, okParts, fillL, D.whole, D.demoteC, D.demote, demoteL, D.global, D.flat, D.leaf, D.cells, TI.agg, TD.rowish, callOpV, moveL, CC, keepB, St.borrowL, St.borrow, D.isLsl, adoptR, adoptC, adoptCL, adoptL, adopt, List.toArray, Array.toList, Nat.reduceEqDiff, Nat.reduceAdd, Nat.reduceSub, Nat.reduceMul, Nat.reduceLeDiff, Nat.reduceLT, reduceIte, reduceCtorEq, forall_const, imp_self, Int.reduceNeg, Int.reduceLT, Int.reduceLE, Int.reduceGT, Int.reduceGE, Int.reduceAdd, Int.reduceSub, Int.reduceMul, Int.reduceToNat, Int.reduceEq, ne_eq, eq_self]
          refine ⟨_, rfl, ?_⟩
          show an5.at_ (some 19) _ = _
          simp only [an5, ren_map, toks_map, boxes_map, tlL, apN, AL, An.at_, tidyV, tidyW, tidyB, tidyT, sift, envBoxes, envToks, conToks, D.toks, D.tok1, toksL, D.boxes, D.box1, boxesL, memN, posN, renE, D.ren, D.ren1, renL, renB, St.content, St.boxOk, St.tokOk, trues, T3, T4, T24, T39, T40, T41, T42, T49, T57, T59, EL, List.replicate_succ, stepD, accs, accP, accW, simpleOp, isAl, isExt, flipD, D.fresh1, D.row, D.plain, D.plain.plainL, St.close, St.close1, St.borrow, retV, resV, resL, outCL, outC, outL, outD, wantedV, opV, An.mid, thawV, D.plainU, prune, envOf, get, put, eval, evalT, nz, argsV, capsV, ofV, binV, binV.aggV, unV, intV, eqOp, isConst, natV, optV, loadV, loadC, storeV, setC, St.at_, partV, partTy, indexAddrV, fieldAddrV, sliceV, sliceV.rowSl, sliceV.strSl, bounds, cutP, builtinV, lenV, maxL, maxV, appendV, St.elems, roomy, rowOf, rowS, isStr, esz, tdOf, convV, buildV, fillV, partsV, okParts, fillL, D.whole, D.demoteC, D.demote, demoteL, D.global, D.flat, D.leaf, D.cells, TI.agg, TD.rowish, callOpV, moveL, CC, keepB, St.borrowL, St.borrow, D.isLsl, adoptR, adoptC, adoptCL, adoptL, adopt, List.toArray, Array.toList, Nat.reduceEqDiff, Nat.reduceAdd, Nat.reduceSub, Nat.reduceMul, Nat.reduceLeDiff, Nat.reduceLT, reduceIte, reduceCtorEq, forall_const, imp_self, Int.reduceNeg, Int.reduceLT, Int.reduceLE, Int.reduceGT, Int.reduceGE, Int.reduceAdd, Int.reduceSub, Int.reduceMul, Int.reduceToNat, Int.reduceEq, ne_eq, eq_self]
      · by_cases ep : p = i
        · rw [eq_true ep] at e1
          have e3 : decide (p = i) = true := decide_eq_true ep
          cases ap
          · simp only [st5_1, lp5_1, subC, atC, Tryd.f5, an5, g0, w1, w2, w3, l2, l3, n1, n2, hp, h, hpq, g1, x1, x2, z1, z2, g2, j0, e1, e2, e3, AL, T3, T4, T24, T39, T40, T41, T42, T49, T57, T59, EL, List.replicate_succ, stepD, accs, accP, accW, simpleOp, isAl, isExt, flipD, D.fresh1, D.row, D.plain, D.plain.plainL, St.close, St.close1, St.borrow, retV, resV, resL, outCL, outC, outL, outD, wantedV, opV, An.mid, thawV, D.plainU, prune, envOf, get, put, eval, evalT, nz, argsV, capsV, ofV, binV, binV.aggV, unV, intV, eqOp, isConst, natV, optV, loadV, loadC, storeV, setC, St.at_, partV, partTy, indexAddrV, fieldAddrV, sliceV, sliceV.rowSl, sliceV.strSl, bounds, cutP, builtinV, lenV, maxL, maxV, appendV, St.elems, roomy, rowOf, rowS, isStr, esz, tdOf, convV, buildV, fillV, partsV, okParts, fillL, D.whole, D.demoteC, D.demote, demoteL, D.global, D.flat, D.leaf, D.cells, TI.agg, TD.rowish, callOpV, moveL, CC, keepB, St.borrowL, St.borrow, D.isLsl, adoptR, adoptC, adoptCL, adoptL, adopt, List.toArray, Array.toList, Nat.reduceEqDiff, Nat.reduceAdd, Nat.reduceSub, Nat.reduceMul, Nat.reduceLeDiff, Nat.reduceLT, reduceIte, reduceCtorEq, forall_const, imp_self, Int.reduceNeg, Int.reduceLT, Int.reduceLE, Int.reduceGT, Int.reduceGE, Int.reduceAdd, Int.reduceSub, Int.reduceMul, Int.reduceToNat, Int.reduceEq, ne_eq, eq_self]
            refine ⟨_, rfl, ?_⟩
            show an5.at_ (some 19) _ = _
            simp only [an5, ren_map, toks_map, boxes_map, tlL, apN, AL, An.at_, tidyV, tidyW, tidyB, tidyT, sift, envBoxes, envToks, conToks, D.toks, D.tok1, toksL, D.boxes, D.box1, boxesL, memN, posN, renE, D.ren, D.ren1, renL, renB, St.content, St.boxOk, St.tokOk, trues, T3, T4, T24, T39, T40, T41, T42, T49, T57, T59, EL, List.replicate_succ, stepD, accs, accP, accW, simpleOp, isAl, isExt, flipD, D.fresh1, D.row, D.plain, D.plain.plainL, St.close, St.close1, St.borrow, retV, resV, resL, outCL, outC, outL, outD, wantedV, opV, An.mid, thawV, D.plainU, prune, envOf, get, put, eval, evalT, nz, argsV, capsV, ofV, binV, binV.aggV, unV, intV, eqOp, isConst, natV, optV, loadV, loadC, storeV, setC, St.at_, partV, partTy, indexAddrV, fieldAddrV, sliceV, sliceV.rowSl, sliceV.strSl, bounds, cutP, builtinV, lenV, maxL, maxV, appendV, St.elems, roomy, rowOf, rowS, isStr, esz, tdOf, convV, buildV, fillV, partsV, okParts, fillL, D.whole, D.demoteC, D.demote, demoteL, D.global, D.flat, D.leaf, D.cells, TI.agg, TD.rowish, callOpV, moveL, CC, keepB, St.borrowL, St.borrow, D.isLsl, adoptR, adoptC, adoptCL, adoptL, adopt, List.toArray, Array.toList, Nat.reduceEqDiff, Nat.reduceAdd, Nat.reduceSub, Nat.reduceMul, Nat.reduceLeDiff, Nat.reduceLT, reduceIte, reduceCtorEq, forall_const, imp_self, Int.reduceNeg, Int.reduceLT, Int.reduceLE, Int.reduceGT, Int.reduceGE, Int.reduceAdd, Int.reduceSub, Int.reduceMul, Int.reduceToNat, Int.reduceEq, ne_eq, eq_self]
          · cases sp
            · simp only [st5_1, lp5_1, subC, atC, Tryd.f5, an5, g0, w1, w2, w3, l2, l3, n1, n2, hp, h, hpq, g1, x1, x2, z1, z2, g2, j0, e1, e2, e3, AL, T3, T4, T24, T39, T40, T41, T42, T49, T57, T59, EL, List.replicate_succ, stepD, accs, accP, accW, simpleOp, isAl, isExt, flipD, D.fresh1, D.row, D.plain, D.plain.plainL, St.close, St.close1, St.borrow, retV, resV, resL, outCL, outC, outL, outD, wantedV, opV, An.mid, thawV, D.plainU, prune, envOf, get, put, eval, evalT, nz, argsV, capsV, ofV, binV, binV.aggV, unV, intV, eqOp, isConst, natV, optV, loadV, loadC, storeV, setC, St.at_, partV, partTy, indexAddrV, fieldAddrV, sliceV, sliceV.rowSl, sliceV.strSl, bounds, cutP, builtinV, lenV, maxL, maxV, appendV, St.elems, roomy, rowOf, rowS, isStr, esz, tdOf, convV, buildV, fillV, partsV, okParts, fillL, D.whole, D.demoteC, D.demote, demoteL, D.global, D.flat, D.leaf, D.cells, TI.agg, TD.rowish, callOpV, moveL, CC, keepB, St.borrowL, St.borrow, D.isLsl, adoptR, adoptC, adoptCL, adoptL, adopt, List.toArray, Array.toList, Nat.reduceEqDiff, Nat.reduceAdd, Nat.reduceSub, Nat.reduceMul, Nat.reduceLeDiff, Nat.reduceLT, reduceIte, reduceCtorEq, forall_const, imp_self, Int.reduceNeg, Int.reduceLT, Int.reduceLE, Int.reduceGT, Int.reduceGE, Int.reduceAdd, Int.reduceSub, Int.reduceMul, Int.reduceToNat, Int.reduceEq, ne_eq, eq_self]
              refine ⟨_, rfl, ?_⟩
              show an5.at_ (some 19) _ = _
              simp only [an5, ren_map, toks_map, boxes_map, tlL, apN, AL, An.at_, tidyV, tidyW, tidyB, tidyT, sift, envBoxes, envToks, conToks, D.toks, D.tok1, toksL, D.boxes, D.box1, boxesL, memN, posN, renE, D.ren, D.ren1, renL, renB, St.content, St.boxOk, St.tokOk, trues, T3, T4, T24, T39, T40, T41, T42, T49, T57, T59, EL, List.replicate_succ, stepD, accs, accP, accW, simpleOp, isAl, isExt, flipD, D.fresh1, D.row, D.plain, D.plain.plainL, St.close, St.close1, St.borrow, retV, resV, resL, outCL, outC, outL, outD, wantedV, opV, An.mid, thawV, D.plainU, prune, envOf, get, put, eval, evalT, nz, argsV, capsV, ofV, binV, binV.aggV, unV, intV, eqOp, isConst, natV, optV, loadV, loadC, storeV, setC, St.at_, partV, partTy, indexAddrV, fieldAddrV, sliceV, sliceV.rowSl, sliceV.strSl, bounds, cutP, builtinV, lenV, maxL, maxV, appendV, St.elems, roomy, rowOf, rowS, isStr, esz, tdOf, convV, buildV, fillV, partsV, okParts, fillL, D.whole, D.demoteC, D.demote, demoteL, D.global, D.flat, D.leaf, D.cells, TI.agg, TD.rowish, callOpV, moveL, CC, keepB, St.borrowL, St.borrow, D.isLsl, adoptR, adoptC, adoptCL, adoptL, adopt, List.toArray, Array.toList, Nat.reduceEqDiff, Nat.reduceAdd, Nat.reduceSub, Nat.reduceMul, Nat.reduceLeDiff, Nat.reduceLT, reduceIte, reduceCtorEq, forall_const, imp_self, Int.reduceNeg, Int.reduceLT, Int.reduceLE, Int.reduceGT, Int.reduceGE, Int.reduceAdd, Int.reduceSub, Int.reduceMul, Int.reduceToNat, Int.reduceEq, ne_eq, eq_self]
            · cases sq <;>
              (simp only [st5_1, lp5_1, subC, atC, Tryd.f5, an5, g0, w1, w2, w3, l2, l3, n1, n2, hp, h, hpq, g1, x1, x2, z1, z2, g2, j0, e1, e2, e3, AL, T3, T4, T24, T39, T40, T41, T42, T49, T57, T59, EL, List.replicate_succ, stepD, accs, accP, accW, simpleOp, isAl, isExt, flipD, D.fresh1, D.row, D.plain, D.plain.plainL, St.close, St.close1, St.borrow, retV, resV, resL, outCL, outC, outL, outD, wantedV, opV, An.mid, thawV, D.plainU, prune, envOf, get, put, eval, evalT, nz, argsV, capsV, ofV, binV, binV.aggV, unV, intV, eqOp, isConst, natV, optV, loadV, loadC, storeV, setC, St.at_, partV, partTy, indexAddrV, fieldAddrV, sliceV, sliceV.rowSl, sliceV.strSl, bounds, cutP, builtinV, lenV, maxL, maxV, appendV, St.elems, roomy, rowOf, rowS, isStr, esz, tdOf, convV, buildV, fillV, partsV, okParts, fillL, D.whole, D.demoteC, D.demote, demoteL, D.global, D.flat, D.leaf, D.cells, TI.agg, TD.rowish, callOpV, moveL, CC, keepB, St.borrowL, St.borrow, D.isLsl, adoptR, adoptC, adoptCL, adoptL, adopt, List.toArray, Array.toList, Nat.reduceEqDiff, Nat.reduceAdd, Nat.reduceSub, Nat.reduceMul, Nat.reduceLeDiff, Nat.reduceLT, reduceIte, reduceCtorEq, forall_const, imp_self, Int.reduceNeg, Int.reduceLT, Int.reduceLE, Int.reduceGT, Int.reduceGE, Int.reduceAdd, Int.reduceSub, Int.reduceMul, Int.reduceToNat, Int.reduceEq, ne_eq, eq_self]
               refine ⟨_, rfl, ?_⟩
               show an5.at_ (some 19) _ = _
               simp only [an5, ren_map, toks_map, boxes_map, tlL, apN, AL, An.at_, tidyV, tidyW, tidyB, tidyT, sift, envBoxes, envToks, conToks, D.toks, D.tok1, toksL, D.boxes, D.box1, boxesL, memN, posN, renE, D.ren, D.ren1, renL, renB, St.content, St.boxOk, St.tokOk, trues, T3, T4, T24, T39, T40, T41, T42, T49, T57, T59, EL, List.replicate_succ, stepD, accs, accP, accW, simpleOp, isAl, isExt, flipD, D.fresh1, D.row, D.plain, D.plain.plainL, St.close, St.close1, St.borrow, retV, resV, resL, outCL, outC, outL, outD, wantedV, opV, An.mid, thawV, D.plainU, prune, envOf, get, put, eval, evalT, nz, argsV, capsV, ofV, binV, binV.aggV, unV, intV, eqOp, isConst, natV, optV, loadV, loadC, storeV, setC, St.at_, partV, partTy, indexAddrV, fieldAddrV, sliceV, sliceV.rowSl, sliceV.strSl, bounds, cutP, builtinV, lenV, maxL, maxV, appendV, St.elems, roomy, rowOf, rowS, isStr, esz, tdOf, convV, buildV, fillV, partsV, okParts, fillL, D.whole, D.demoteC, D.demote, demoteL, D.global, D.flat, D.leaf, D.cells, TI.agg, TD.rowish, callOpV, moveL, CC, keepB, St.borrowL, St.borrow, D.isLsl, adoptR, adoptC, adoptCL, adoptL, adopt, List.toArray, Array.toList, Nat.reduceEqDiff, Nat.reduceAdd, Nat.reduceSub, Nat.reduceMul, Nat.reduceLeDiff, Nat.reduceLT, reduceIte, reduceCtorEq, forall_const, imp_self, Int.reduceNeg, Int.reduceLT, Int.reduceLE, Int.reduceGT, Int.reduceGE, Int.reduceAdd, Int.reduceSub, Int.reduceMul, Int.reduceToNat, Int.reduceEq, ne_eq, eq_self])
        · rw [eq_false ep] at e1
          have e3 : decide (p = i) = false := decide_eq_false ep
          by_cases eq : q = i
          · rw [eq_true eq] at e2
            have e4 : decide (q = i) = true := decide_eq_true eq
            cases ap
            · simp only [st5_1, lp5_1, subC, atC, Tryd.f5, an5, g0, w1, w2, w3, l2, l3, n1, n2, hp, h, hpq, g1, x1, x2, z1, z2, g2, j0, e1, e2, e3, e4, AL, T3, T4, T24, T39, T40, T41, T42, T49, T57, T59, EL, List.replicate_succ, stepD, accs, accP, accW, simpleOp, isAl, isExt, flipD, D.fresh1, D.row, D.plain, D.plain.plainL, St.close, St.close1, St.borrow, retV, resV, resL, outCL, outC, outL, outD, wantedV, opV, An.mid, thawV, D.plainU, prune, envOf, get, put, eval, evalT, nz, argsV, capsV, ofV, binV, binV.aggV, unV, intV, eqOp, isConst, natV, optV, loadV, loadC, storeV, setC, St.at_, partV, partTy, indexAddrV, fieldAddrV, sliceV, sliceV.rowSl, sliceV.strSl, bounds, cutP, builtinV, lenV, maxL, maxV, appendV, St.elems, roomy, rowOf, rowS, isStr, esz, tdOf, convV, buildV, fillV, partsV, okParts, fillL, D.whole, D.demoteC, D.demote, demoteL, D.global, D.flat, D.leaf, D.cells, TI.agg, TD.rowish, callOpV, moveL, CC, keepB, St.borrowL, St.borrow, D.isLsl, adoptR, adoptC, adoptCL, adoptL, adopt, List.toArray, Array.toList, Nat.reduceEqDiff, Nat.reduceAdd, Nat.reduceSub, Nat.reduceMul, Nat.reduceLeDiff, Nat.reduceLT, reduceIte, reduceCtorEq, forall_const, imp_self, Int.reduceNeg, Int.reduceLT, Int.reduceLE, Int.reduceGT, Int.reduceGE, Int.reduceAdd, Int.reduceSub, Int.reduceMul, Int.reduceToNat, Int.reduceEq, ne_eq, eq_self]
              refine ⟨_, rfl, ?_⟩
              show an5.at_ (some 19) _ = _
              simp only [an5, ren_map, toks_map, boxes_map, tlL, apN, AL, An.at_, tidyV, tidyW, tidyB, tidyT, sift, envBoxes, envToks, conToks, D.toks, D.tok1, toksL, D.boxes, D.box1, boxesL, memN, posN, renE, D.ren, D.ren1, renL, renB, St.content, St.boxOk, St.tokOk, trues, T3, T4, T24, T39, T40, T41, T42, T49, T57, T59, EL, List.replicate_succ, stepD, accs, accP, accW, simpleOp, isAl, isExt, flipD, D.fresh1, D.row, D.plain, D.plain.plainL, St.close, St.close1, St.borrow, retV, resV, resL, outCL, outC, outL, outD, wantedV, opV, An.mid, thawV, D.plainU, prune, envOf, get, put, eval, evalT, nz, argsV, capsV, ofV, binV, binV.aggV, unV, intV, eqOp, isConst, natV, optV, loadV, loadC, storeV, setC, St.at_, partV, partTy, indexAddrV, fieldAddrV, sliceV, sliceV.rowSl, sliceV.strSl, bounds, cutP, builtinV, lenV, maxL, maxV, appendV, St.elems, roomy, rowOf, rowS, isStr, esz, tdOf, convV, buildV, fillV, partsV, okParts, fillL, D.whole, D.demoteC, D.demote, demoteL, D.global, D.flat, D.leaf, D.cells, TI.agg, TD.rowish, callOpV, moveL, CC, keepB, St.borrowL, St.borrow, D.isLsl, adoptR, adoptC, adoptCL, adoptL, adopt, List.toArray, Array.toList, Nat.reduceEqDiff, Nat.reduceAdd, Nat.reduceSub, Nat.reduceMul, Nat.reduceLeDiff, Nat.reduceLT, reduceIte, reduceCtorEq, forall_const, imp_self, Int.reduceNeg, Int.reduceLT, Int.reduceLE, Int.reduceGT, Int.reduceGE, Int.reduceAdd, Int.reduceSub, Int.reduceMul, Int.reduceToNat, Int.reduceEq, ne_eq, eq_self]
            · cases sp
              · simp only [st5_1, lp5_1, subC, atC, Tryd.f5, an5, g0, w1, w2, w3, l2, l3, n1, n2, hp, h, hpq, g1, x1, x2, z1, z2, g2, j0, e1, e2, e3, e4, AL, T3, T4, T24, T39, T40, T41, T42, T49, T57, T59, EL, List.replicate_succ, stepD, accs, accP, accW, simpleOp, isAl, isExt, flipD, D.fresh1, D.row, D.plain, D.plain.plainL, St.close, St.close1, St.borrow, retV, resV, resL, outCL, outC, outL, outD, wantedV, opV, An.mid, thawV, D.plainU, prune, envOf, get, put, eval, evalT, nz, argsV, capsV, ofV, binV, binV.aggV, unV, intV, eqOp, isConst, natV, optV, loadV, loadC, storeV, setC, St.at_, partV, partTy, indexAddrV, fieldAddrV, sliceV, sliceV.rowSl, sliceV.strSl, bounds, cutP, builtinV, lenV, maxL, maxV, appendV, St.elems, roomy, rowOf, rowS, isStr, esz, tdOf, convV, buildV, fillV, partsV, okParts, fillL, D.whole, D.demoteC, D.demote, demoteL, D.global, D.flat, D.leaf, D.cells, TI.agg, TD.rowish, callOpV, moveL, CC, keepB, St.borrowL, St.borrow, D.isLsl, adoptR, adoptC, adoptCL, adoptL, adopt, List.toArray, Array.toList, Nat.reduceEqDiff, Nat.reduceAdd, Nat.reduceSub, Nat.reduceMul, Nat.reduceLeDiff, Nat.reduceLT, reduceIte, reduceCtorEq, forall_const, imp_self, Int.reduceNeg, Int.reduceLT, Int.reduceLE, Int.reduceGT, Int.reduceGE, Int.reduceAdd, Int.reduceSub, Int.reduceMul, Int.reduceToNat, Int.reduceEq, ne_eq, eq_self]
                refine ⟨_, rfl, ?_⟩
                show an5.at_ (some 19) _ = _
                simp only [an5, ren_map, toks_map, boxes_map, tlL, apN, AL, An.at_, tidyV, tidyW, tidyB, tidyT, sift, envBoxes, envToks, conToks, D.toks, D.tok1, toksL, D.boxes, D.box1, boxesL, memN, posN, renE, D.ren, D.ren1, renL, renB, St.content, St.boxOk, St.tokOk, trues, T3, T4, T24, T39, T40, T41, T42, T49, T57, T59, EL, List.replicate_succ, stepD, accs, accP, accW, simpleOp, isAl, isExt, flipD, D.fresh1, D.row, D.plain, D.plain.plainL, St.close, St.close1, St.borrow, retV, resV, resL, outCL, outC, outL, outD, wantedV, opV, An.mid, thawV, D.plainU, prune, envOf, get, put, eval, evalT, nz, argsV, capsV, ofV, binV, binV.aggV, unV, intV, eqOp, isConst, natV, optV, loadV, loadC, storeV, setC, St.at_, partV, partTy, indexAddrV, fieldAddrV, sliceV, sliceV.rowSl, sliceV.strSl, bounds, cutP, builtinV, lenV, maxL, maxV, appendV, St.elems, roomy, rowOf, rowS, isStr, esz, tdOf, convV, buildV, fillV, partsV, okParts, fillL, D.whole, D.demoteC, D.demote, demoteL, D.global, D.flat, D.leaf, D.cells, TI.agg, TD.rowish, callOpV, moveL, CC, keepB, St.borrowL, St.borrow, D.isLsl, adoptR, adoptC, adoptCL, adoptL, adopt, List.toArray, Array.toList, Nat.reduceEqDiff, Nat.reduceAdd, Nat.reduceSub, Nat.reduceMul, Nat.reduceLeDiff, Nat.reduceLT, reduceIte, reduceCtorEq, forall_const, imp_self, Int.reduceNeg, Int.reduceLT, Int.reduceLE, Int.reduceGT, Int.reduceGE, Int.reduceAdd, Int.reduceSub, Int.reduceMul, Int.reduceToNat, Int.reduceEq, ne_eq, eq_self]
              · cases sq <;>
                (simp only [st5_1, lp5_1, subC, atC, Tryd.f5, an5, g0, w1, w2, w3, l2, l3, n1, n2, hp, h, hpq, g1, x1, x2, z1, z2, g2, j0, e1, e2, e3, e4, AL, T3, T4, T24, T39, T40, T41, T42, T49, T57, T59, EL, List.replicate_succ, stepD, accs, accP, accW, simpleOp, isAl, isExt, flipD, D.fresh1, D.row, D.plain, D.plain.plainL, St.close, St.close1, St.borrow, retV, resV, resL, outCL, outC, outL, outD, wantedV, opV, An.mid, thawV, D.plainU, prune, envOf, get, put, eval, evalT, nz, argsV, capsV, ofV, binV, binV.aggV, unV, intV, eqOp, isConst, natV, optV, loadV, loadC, storeV, setC, St.at_, partV, partTy, indexAddrV, fieldAddrV, sliceV, sliceV.rowSl, sliceV.strSl, bounds, cutP, builtinV, lenV, maxL, maxV, appendV, St.elems, roomy, rowOf, rowS, isStr, esz, tdOf, convV, buildV, fillV, partsV, okParts, fillL, D.whole, D.demoteC, D.demote, demoteL, D.global, D.flat, D.leaf, D.cells, TI.agg, TD.rowish, callOpV, moveL, CC, keepB, St.borrowL, St.borrow, D.isLsl, adoptR, adoptC, adoptCL, adoptL, adopt, List.toArray, Array.toList, Nat.reduceEqDiff, Nat.reduceAdd, Nat.reduceSub, Nat.reduceMul, Nat.reduceLeDiff, Nat.reduceLT, reduceIte, reduceCtorEq, forall_const, imp_self, Int.reduceNeg, Int.reduceLT, Int.reduceLE, Int.reduceGT, Int.reduceGE, Int.reduceAdd, Int.reduceSub, Int.reduceMul, Int.reduceToNat, Int.reduceEq, ne_eq, eq_self]
                 refine ⟨_, rfl, ?_⟩
                 show an5.at_ (some 19) _ = _
                 simp only [an5, ren_map, toks_map, boxes_map, tlL, apN, AL, An.at_, tidyV, tidyW, tidyB, tidyT, sift, envBoxes, envToks, conToks, D.toks, D.tok1, toksL, D.boxes, D.box1, boxesL, memN, posN, renE, D.ren, D.ren1, renL, renB, St.content, St.boxOk, St.tokOk, trues, T3, T4, T24, T39, T40, T41, T42, T49, T57, T59, EL, List.replicate_succ, stepD, accs, accP, accW, simpleOp, isAl, isExt, flipD, D.fresh1, D.row, D.plain, D.plain.plainL, St.close, St.close1, St.borrow, retV, resV, resL, outCL, outC, outL, outD, wantedV, opV, An.mid, thawV, D.plainU, prune, envOf, get, put, eval, evalT, nz, argsV, capsV, ofV, binV, binV.aggV, unV, intV, eqOp, isConst, natV, optV, loadV, loadC, storeV, setC, St.at_, partV, partTy, indexAddrV, fieldAddrV, sliceV, sliceV.rowSl, sliceV.strSl, bounds, cutP, builtinV, lenV, maxL, maxV, appendV, St.elems, roomy, rowOf, rowS, isStr, esz, tdOf, convV, buildV, fillV, partsV, okParts, fillL, D.whole, D.demoteC, D.demote, demoteL, D.global, D.flat, D.leaf, D.cells, TI.agg, TD.rowish, callOpV, moveL, CC, keepB, St.borrowL, St.borrow, D.isLsl, adoptR, adoptC, adoptCL, adoptL, adopt, List.toArray, Array.toList, Nat.reduceEqDiff, Nat.reduceAdd, Nat.reduceSub, Nat.reduceMul, Nat.reduceLeDiff, Nat.reduceLT, reduceIte, reduceCtorEq, forall_const, imp_self, Int.reduceNeg, Int.reduceLT, Int.reduceLE, Int.reduceGT, Int.reduceGE, Int.reduceAdd, Int.reduceSub, Int.reduceMul, Int.reduceToNat, Int.reduceEq, ne_eq, eq_self])
          · rw [eq_false eq] at e2
            have e4 : decide (q = i) = false := decide_eq_false eq
            cases ap
            · simp only [st5_1, lp5_1, subC, atC, Tryd.f5, an5, g0, w1, w2, w3, l2, l3, n1, n2, hp, h, hpq, g1, x1, x2, z1, z2, g2, j0, e1, e2, e3, e4, AL, T3, T4, T24, T39, T40, T41, T42, T49, T57, T59, EL, List.replicate_succ, stepD, accs, accP, accW, simpleOp, isAl, isExt, flipD, D.fresh1, D.row, D.plain, D.plain.plainL, St.close, St.close1, St.borrow, retV, resV, resL, outCL, outC, outL, outD, wantedV, opV, An.mid, thawV, D.plainU, prune, envOf, get, put, eval, evalT, nz, argsV, capsV, ofV, binV, binV.aggV, unV, intV, eqOp, isConst, natV, optV, loadV, loadC, storeV, setC, St.at_, partV, partTy, indexAddrV, fieldAddrV, sliceV, sliceV.rowSl, sliceV.strSl, bounds, cutP, builtinV, lenV, maxL, maxV, appendV, St.elems, roomy, rowOf, rowS, isStr, esz, tdOf, convV, buildV, fillV, partsV, okParts, fillL, D.whole, D.demoteC, D.demote, demoteL, D.global, D.flat, D.leaf, D.cells, TI.agg, TD.rowish, callOpV, moveL, CC, keepB, St.borrowL, St.borrow, D.isLsl, adoptR, adoptC, adoptCL, adoptL, adopt, List.toArray, Array.toList, Nat.reduceEqDiff, Nat.reduceAdd, Nat.reduceSub, Nat.reduceMul, Nat.reduceLeDiff, Nat.reduceLT, reduceIte, reduceCtorEq, forall_const, imp_self, Int.reduceNeg, Int.reduceLT, Int.reduceLE, Int.reduceGT, Int.reduceGE, Int.reduceAdd, Int.reduceSub, Int.reduceMul, Int.reduceToNat, Int.reduceEq, ne_eq, eq_self]
              refine ⟨_, rfl, ?_⟩
              show an5.at_ (some 19) _ = _
              simp only [an5, ren_map, toks_map, boxes_map, tlL, apN, AL, An.at_, tidyV, tidyW, tidyB, tidyT, sift, envBoxes, envToks, conToks, D.toks, D.tok1, toksL, D.boxes, D.box1, boxesL, memN, posN, renE, D.ren, D.ren1, renL, renB, St.content, St.boxOk, St.tokOk, trues, T3, T4, T24, T39, T40, T41, T42, T49, T57, T59, EL, List.replicate_succ, stepD, accs, accP, accW, simpleOp, isAl, isExt, flipD, D.fresh1, D.row, D.plain, D.plain.plainL, St.close, St.close1, St.borrow, retV, resV, resL, outCL, outC, outL, outD, wantedV, opV, An.mid, thawV, D.plainU, prune, envOf, get, put, eval, evalT, nz, argsV, capsV, ofV, binV, binV.aggV, unV, intV, eqOp, isConst, natV, optV, loadV, loadC, storeV, setC, St.at_, partV, partTy, indexAddrV, fieldAddrV, sliceV, sliceV.rowSl, sliceV.strSl, bounds, cutP, builtinV, lenV, maxL, maxV, appendV, St.elems, roomy, rowOf, rowS, isStr, esz, tdOf, convV, buildV, fillV, partsV, okParts, fillL, D.whole, D.demoteC, D.demote, demoteL, D.global, D.flat, D.leaf, D.cells, TI.agg, TD.rowish, callOpV, moveL, CC, keepB, St.borrowL, St.borrow, D.isLsl, adoptR, adoptC, adoptCL, adoptL, adopt, List.toArray, Array.toList, Nat.reduceEqDiff, Nat.reduceAdd, Nat.reduceSub, Nat.reduceMul, Nat.reduceLeDiff, Nat.reduceLT, reduceIte, reduceCtorEq, forall_const, imp_self, Int.reduceNeg, Int.reduceLT, Int.reduceLE, Int.reduceGT, Int.reduceGE, Int.reduceAdd, Int.reduceSub, Int.reduceMul, Int.reduceToNat, Int.reduceEq, ne_eq, eq_self]
            · cases sp
              · simp only [st5_1, lp5_1, subC, atC, Tryd.f5, an5, g0, w1, w2, w3, l2, l3, n1, n2, hp, h, hpq, g1, x1, x2, z1, z2, g2, j0, e1, e2, e3, e4, AL, T3, T4, T24, T39, T40, T41, T42, T49, T57, T59, EL, List.replicate_succ, stepD, accs, accP, accW, simpleOp, isAl, isExt, flipD, D.fresh1, D.row, D.plain, D.plain.plainL, St.close, St.close1, St.borrow, retV, resV, resL, outCL, outC, outL, outD, wantedV, opV, An.mid, thawV, D.plainU, prune, envOf, get, put, eval, evalT, nz, argsV, capsV, ofV, binV, binV.aggV, unV, intV, eqOp, isConst, natV, optV, loadV, loadC, storeV, setC, St.at_, partV, partTy, indexAddrV, fieldAddrV, sliceV, sliceV.rowSl, sliceV.strSl, bounds, cutP, builtinV, lenV, maxL, maxV, appendV, St.elems, roomy, rowOf, rowS, isStr, esz, tdOf, convV, buildV, fillV, partsV, okParts, fillL, D.whole, D.demoteC, D.demote, demoteL, D.global, D.flat, D.leaf, D.cells, TI.agg, TD.rowish, callOpV, moveL, CC, keepB, St.borrowL, St.borrow, D.isLsl, adoptR, adoptC, adoptCL, adoptL, adopt, List.toArray, Array.toList, Nat.reduceEqDiff, Nat.reduceAdd, Nat.reduceSub, Nat.reduceMul, Nat.reduceLeDiff, Nat.reduceLT, reduceIte, reduceCtorEq, forall_const, imp_self, Int.reduceNeg, Int.reduceLT, Int.reduceLE, Int.reduceGT, Int.reduceGE, Int.reduceAdd, Int.reduceSub, Int.reduceMul, Int.reduceToNat, Int.reduceEq, ne_eq, eq_self]
                refine ⟨_, rfl, ?_⟩
                show an5.at_ (some 19) _ = _
                simp only [an5, ren_map, toks_map, boxes_map, tlL, apN, AL, An.at_, tidyV, tidyW, tidyB, tidyT, sift, envBoxes, envToks, conToks, D.toks, D.tok1, toksL, D.boxes, D.box1, boxesL, memN, posN, renE, D.ren, D.ren1, renL, renB, St.content, St.boxOk, St.tokOk, trues, T3, T4, T24, T39, T40, T41, T42, T49, T57, T59, EL, List.replicate_succ, stepD, accs, accP, accW, simpleOp, isAl, isExt, flipD, D.fresh1, D.row, D.plain, D.plain.plainL, St.close, St.close1, St.borrow, retV, resV, resL, outCL, outC, outL, outD, wantedV, opV, An.mid, thawV, D.plainU, prune, envOf, get, put, eval, evalT, nz, argsV, capsV, ofV, binV, binV.aggV, unV, intV, eqOp, isConst, natV, optV, loadV, loadC, storeV, setC, St.at_, partV, partTy, indexAddrV, fieldAddrV, sliceV, sliceV.rowSl, sliceV.strSl, bounds, cutP, builtinV, lenV, maxL, maxV, appendV, St.elems, roomy, rowOf, rowS, isStr, esz, tdOf, convV, buildV, fillV, partsV, okParts, fillL, D.whole, D.demoteC, D.demote, demoteL, D.global, D.flat, D.leaf, D.cells, TI.agg, TD.rowish, callOpV, moveL, CC, keepB, St.borrowL, St.borrow, D.isLsl, adoptR, adoptC, adoptCL, adoptL, adopt, List.toArray, Array.toList, Nat.reduceEqDiff, Nat.reduceAdd, Nat.reduceSub, Nat.reduceMul, Nat.reduceLeDiff, Nat.reduceLT, reduceIte, reduceCtorEq, forall_const, imp_self, Int.reduceNeg, Int.reduceLT, Int.reduceLE, Int.reduceGT, Int.reduceGE, Int.reduceAdd, Int.reduceSub, Int.reduceMul, Int.reduceToNat, Int.reduceEq, ne_eq, eq_self]
              · cases sq <;>
                (simp only [st5_1, lp5_1, subC, atC, Tryd.f5, an5, g0, w1, w2, w3, l2, l3, n1, n2, hp, h, hpq, g1, x1, x2, z1, z2, g2, j0, e1, e2, e3, e4, AL, T3, T4, T24, T39, T40, T41, T42, T49, T57, T59, EL, List.replicate_succ, stepD, accs, accP, accW, simpleOp, isAl, isExt, flipD, D.fresh1, D.row, D.plain, D.plain.plainL, St.close, St.close1, St.borrow, retV, resV, resL, outCL, outC, outL, outD, wantedV, opV, An.mid, thawV, D.plainU, prune, envOf, get, put, eval, evalT, nz, argsV, capsV, ofV, binV, binV.aggV, unV, intV, eqOp, isConst, natV, optV, loadV, loadC, storeV, setC, St.at_, partV, partTy, indexAddrV, fieldAddrV, sliceV, sliceV.rowSl, sliceV.strSl, bounds, cutP, builtinV, lenV, maxL, maxV, appendV, St.elems, roomy, rowOf, rowS, isStr, esz, tdOf, convV, buildV, fillV, partsV, okParts, fillL, D.whole, D.demoteC, D.demote, demoteL, D.global, D.flat, D.leaf, D.cells, TI.agg, TD.rowish, callOpV, moveL, CC, keepB, St.borrowL, St.borrow, D.isLsl, adoptR, adoptC, adoptCL, adoptL, adopt, List.toArray, Array.toList, Nat.reduceEqDiff, Nat.reduceAdd, Nat.reduceSub, Nat.reduceMul, Nat.reduceLeDiff, Nat.reduceLT, reduceIte, reduceCtorEq, forall_const, imp_self, Int.reduceNeg, Int.reduceLT, Int.reduceLE, Int.reduceGT, Int.reduceGE, Int.reduceAdd, Int.reduceSub, Int.reduceMul, Int.reduceToNat, Int.reduceEq, ne_eq, eq_self]
                 refine ⟨_, rfl, ?_⟩
                 show an5.at_ (some 19) _ = _
                 simp only [an5, ren_map, toks_map, boxes_map, tlL, apN, AL, An.at_, tidyV, tidyW, tidyB, tidyT, sift, envBoxes, envToks, conToks, D.toks, D.tok1, toksL, D.boxes, D.box1, boxesL, memN, posN, renE, D.ren, D.ren1, renL, renB, St.content, St.boxOk, St.tokOk, trues, T3, T4, T24, T39, T40, T41, T42, T49, T57, T59, EL, List.replicate_succ, stepD, accs, accP, accW, simpleOp, isAl, isExt, flipD, D.fresh1, D.row, D.plain, D.plain.plainL, St.close, St.close1, St.borrow, retV, resV, resL, outCL, outC, outL, outD, wantedV, opV, An.mid, thawV, D.plainU, prune, envOf, get, put, eval, evalT, nz, argsV, capsV, ofV, binV, binV.aggV, unV, intV, eqOp, isConst, natV, optV, loadV, loadC, storeV, setC, St.at_, partV, partTy, indexAddrV, fieldAddrV, sliceV, sliceV.rowSl, sliceV.strSl, bounds, cutP, builtinV, lenV, maxL, maxV, appendV, St.elems, roomy, rowOf, rowS, isStr, esz, tdOf, convV, buildV, fillV, partsV, okParts, fillL, D.whole, D.demoteC, D.demote, demoteL, D.global, D.flat, D.leaf, D.cells, TI.agg, TD.rowish, callOpV, moveL, CC, keepB, St.borrowL, St.borrow, D.isLsl, adoptR, adoptC, adoptCL, adoptL, adopt, List.toArray, Array.toList, Nat.reduceEqDiff, Nat.reduceAdd, Nat.reduceSub, Nat.reduceMul, Nat.reduceLeDiff, Nat.reduceLT, reduceIte, reduceCtorEq, forall_const, imp_self, Int.reduceNeg, Int.reduceLT, Int.reduceLE, Int.reduceGT, Int.reduceGE, Int.reduceAdd, Int.reduceSub, Int.reduceMul, Int.reduceToNat, Int.reduceEq, ne_eq, eq_self])
    · have j0 : ¬ ((1 : Nat) : Int) = 0 := by decide
      generalize tb m p q = t0 at g1
      generalize s.testBit p = sp at z1
      generalize s.testBit q = sq at z2
      cases ap
      · simp only [st5_1, lp5_1, subC, atC, Tryd.f5, an5, g0, w1, w2, w3, l2, l3, n1, n2, hp, h, hpq, g1, x1, x2, z1, z2, j0, AL, T3, T4, T24, T39, T40, T41, T42, T49, T57, T59, EL, List.replicate_succ, stepD, accs, accP, accW, simpleOp, isAl, isExt, flipD, D.fresh1, D.row, D.plain, D.plain.plainL, St.close, St.close1, St.borrow, retV, resV, resL, outCL, outC, outL, outD, wantedV, opV, An.mid, thawV, D.plainU, prune, envOf, get, put, eval, evalT, nz, argsV, capsV, ofV, binV, binV.aggV, unV, intV, eqOp, isConst, natV, optV, loadV, loadC, storeV, setC, St.at_, partV, partTy, indexAddrV, fieldAddrV, sliceV, sliceV.rowSl, sliceV.strSl, bounds, cutP, builtinV, lenV, maxL, maxV, appendV, St.elems, roomy, rowOf, rowS, isStr, esz, tdOf, convV, buildV, fillV, partsV, okParts, fillL, D.whole, D.demoteC, D.demote, demoteL, D.global, D.flat, D.leaf, D.cells, TI.agg, TD.rowish, callOpV, moveL, CC, keepB, St.borrowL, St.borrow, D.isLsl, adoptR, adoptC, adoptCL, adoptL, adopt, List.toArray, Array.toList, Nat.reduceEqDiff, Nat.reduceAdd, Nat.reduceSub, Nat.reduceMul, Nat.reduceLeDiff, Nat.reduceLT, reduceIte, reduceCtorEq, forall_const, imp_self, Int.reduceNeg, Int.reduceLT, Int.reduceLE, Int.reduceGT, Int.reduceGE, Int.reduceAdd, Int.reduceSub, Int.reduceMul, Int.reduceToNat, Int.reduceEq, ne_eq, eq_self]
        refine ⟨_, rfl, ?_⟩
        show an5.at_ (some 19) _ = _
        simp only [an5, ren_map, toks_map, boxes_map, tlL, apN, AL, An.at_, tidyV, tidyW, tidyB, tidyT, sift, envBoxes, envToks, conToks, D.toks, D.tok1, toksL, D.boxes, D.box1, boxesL, memN, posN, renE, D.ren, D.ren1, renL, renB, St.content, St.boxOk, St.tokOk, trues, T3, T4, T24, T39, T40, T41, T42, T49, T57, T59, EL, List.replicate_succ, stepD, accs, accP, accW, simpleOp, isAl, isExt, flipD, D.fresh1, D.row, D.plain, D.plain.plainL, St.close, St.close1, St.borrow, retV, resV, resL, outCL, outC, outL, outD, wantedV, opV, An.mid, thawV, D.plainU, prune, envOf, get, put, eval, evalT, nz, argsV, capsV, ofV, binV, binV.aggV, unV, intV, eqOp, isConst, natV, optV, loadV, loadC, storeV, setC, St.at_, partV, partTy, indexAddrV, fieldAddrV, sliceV, sliceV.rowSl, sliceV.strSl, bounds, cutP, builtinV, lenV, maxL, maxV, appendV, St.elems, roomy, rowOf, rowS, isStr, esz, tdOf, convV, buildV, fillV, partsV, okParts, fillL, D.whole, D.demoteC, D.demote, demoteL, D.global, D.flat, D.leaf, D.cells, TI.agg, TD.rowish, callOpV, moveL, CC, keepB, St.borrowL, St.borrow, D.isLsl, adoptR, adoptC, adoptCL, adoptL, adopt, List.toArray, Array.toList, Nat.reduceEqDiff, Nat.reduceAdd, Nat.reduceSub, Nat.reduceMul, Nat.reduceLeDiff, Nat.reduceLT, reduceIte, reduceCtorEq, forall_const, imp_self, Int.reduceNeg, Int.reduceLT, Int.reduceLE, Int.reduceGT, Int.reduceGE, Int.reduceAdd, Int.reduceSub, Int.reduceMul, Int.reduceToNat, Int.reduceEq, ne_eq, eq_self]
      · cases t0
        · simp only [st5_1, lp5_1, subC, atC, Tryd.f5, an5, g0, w1, w2, w3, l2, l3, n1, n2, hp, h, hpq, g1, x1, x2, z1, z2, j0, AL, T3, T4, T24, T39, T40, T41, T42, T49, T57, T59, EL, List.replicate_succ, stepD, accs, accP, accW, simpleOp, isAl, isExt, flipD, D.fresh1, D.row, D.plain, D.plain.plainL, St.close, St.close1, St.borrow, retV, resV, resL, outCL, outC, outL, outD, wantedV, opV, An.mid, thawV, D.plainU, prune, envOf, get, put, eval, evalT, nz, argsV, capsV, ofV, binV, binV.aggV, unV, intV, eqOp, isConst, natV, optV, loadV, loadC, storeV, setC, St.at_, partV, partTy, indexAddrV, fieldAddrV, sliceV, sliceV.rowSl, sliceV.strSl, bounds, cutP, builtinV, lenV, maxL, maxV, appendV, St.elems, roomy, rowOf, rowS, isStr, esz, tdOf, convV, buildV, fillV, partsV, okParts, fillL, D.whole, D.demoteC, D.demote, demoteL, D.global, D.flat, D.leaf, D.cells, TI.agg, TD.rowish, callOpV, moveL, CC, keepB, St.borrowL, St.borrow, D.isLsl, adoptR, adoptC, adoptCL, adoptL, adopt, List.toArray, Array.toList, Nat.reduceEqDiff, Nat.reduceAdd, Nat.reduceSub, Nat.reduceMul, Nat.reduceLeDiff, Nat.reduceLT, reduceIte, reduceCtorEq, forall_const, imp_self, Int.reduceNeg, Int.reduceLT, Int.reduceLE, Int.reduceGT, Int.reduceGE, Int.reduceAdd, Int.reduceSub, Int.reduceMul, Int.reduceToNat, Int.reduceEq, ne_eq, eq_self]
          refine ⟨_, rfl, ?_⟩
          show an5.at_ (some 19) _ = _
          simp only [an5, ren_map, toks_map, boxes_map, tlL, apN, AL, An.at_, tidyV, tidyW, tidyB, tidyT, sift, envBoxes, envToks, conToks, D.toks, D.tok1, toksL, D.boxes, D.box1, boxesL, memN, posN, renE, D.ren, D.ren1, renL, renB, St.content, St.boxOk, St.tokOk, trues, T3, T4, T24, T39, T40, T41, T42, T49, T57, T59, EL, List.replicate_succ, stepD, accs, accP, accW, simpleOp, isAl, isExt, flipD, D.fresh1, D.row, D.plain, D.plain.plainL, St.close, St.close1, St.borrow, retV, resV, resL, outCL, outC, outL, outD, wantedV, opV, An.mid, thawV, D.plainU, prune, envOf, get, put, eval, evalT, nz, argsV, capsV, ofV, binV, binV.aggV, unV, intV, eqOp, isConst, natV, optV, loadV, loadC, storeV, setC, St.at_, partV, partTy, indexAddrV, fieldAddrV, sliceV, sliceV.rowSl, sliceV.strSl, bounds, cutP, builtinV, lenV, maxL, maxV, appendV, St.elems, roomy, rowOf, rowS, isStr, esz, tdOf, convV, buildV, fillV, partsV, okParts, fillL, D.whole, D.demoteC, D.demote, demoteL, D.global, D.flat, D.leaf, D.cells, TI.agg, TD.rowish, callOpV, moveL, CC, keepB, St.borrowL, St.borrow, D.isLsl, adoptR, adoptC, adoptCL, adoptL, adopt, List.toArray, Array.toList, Nat.reduceEqDiff, Nat.reduceAdd, Nat.reduceSub, Nat.reduceMul, Nat.reduceLeDiff, Nat.reduceLT, reduceIte, reduceCtorEq, forall_const, imp_self, Int.reduceNeg, Int.reduceLT, Int.reduceLE, Int.reduceGT, Int.reduceGE, Int.reduceAdd, Int.reduceSub, Int.reduceMul, Int.reduceToNat, Int.reduceEq, ne_eq, eq_self]
        · cases sp
          · simp only [st5_1, lp5_1, subC, atC, Tryd.f5, an5, g0, w1, w2, w3, l2, l3, n1, n2, hp, h, hpq, g1, x1, x2, z1, z2, j0, AL, T3, T4, T24, T39, T40, T41, T42, T49, T57, T59, EL, List.replicate_succ, stepD, accs, accP, accW, simpleOp, isAl, isExt, flipD, D.fresh1, D.row, D.plain, D.plain.plainL, St.close, St.close1, St.borrow, retV, resV, resL, outCL, outC, outL, outD, wantedV, opV, An.mid, thawV, D.plainU, prune, envOf, get, put, eval, evalT, nz, argsV, capsV, ofV, binV, binV.aggV, unV, intV, eqOp, isConst, natV, optV, loadV, loadC, storeV, setC, St.at_, partV, partTy, indexAddrV, fieldAddrV, sliceV, sliceV.rowSl, sliceV.strSl, bounds, cutP, builtinV, lenV, maxL, maxV, appendV, St.elems, roomy, rowOf, rowS, isStr, esz, tdOf, convV, buildV, fillV, partsV, okParts, fillL, D.whole, D.demoteC, D.demote, demoteL, D.global, D.flat, D.leaf, D.cells, TI.agg, TD.rowish, callOpV, moveL, CC, keepB, St.borrowL, St.borrow, D.isLsl, adoptR, adoptC, adoptCL, adoptL, adopt, List.toArray, Array.toList, Nat.reduceEqDiff, Nat.reduceAdd, Nat.reduceSub, Nat.reduceMul, Nat.reduceLeDiff, Nat.reduceLT, reduceIte, reduceCtorEq, forall_const, imp_self, Int.reduceNeg, Int.reduceLT, Int.reduceLE, Int.reduceGT, Int.reduceGE, Int.reduceAdd, Int.reduceSub, Int.reduceMul, Int.reduceToNat, Int.reduceEq, ne_eq, eq_self]
            refine ⟨_, rfl, ?_⟩
            show an5.at_ (some 19) _ = _
            simp only [an5, ren_map, toks_map, boxes_map, tlL, apN, AL, An.at_, tidyV, tidyW, tidyB, tidyT, sift, envBoxes, envToks, conToks, D.toks, D.tok1, toksL, D.boxes, D.box1, boxesL, memN, posN, renE, D.ren, D.ren1, renL, renB, St.content, St.boxOk, St.tokOk, trues, T3, T4, T24, T39, T40, T41, T42, T49, T57, T59, EL, List.replicate_succ, stepD, accs, accP, accW, simpleOp, isAl, isExt, flipD, D.fresh1, D.row, D.plain, D.plain.plainL, St.close, St.close1, St.borrow, retV, resV, resL, outCL, outC, outL, outD, wantedV, opV, An.mid, thawV, D.plainU, prune, envOf, get, put, eval, evalT, nz, argsV, capsV, ofV, binV, binV.aggV, unV, intV, eqOp, isConst, natV, optV, loadV, loadC, storeV, setC, St.at_, partV, partTy, indexAddrV, fieldAddrV, sliceV, sliceV.rowSl, sliceV.strSl, bounds, cutP, builtinV, lenV, maxL, maxV, appendV, St.elems, roomy, rowOf, rowS, isStr, esz, tdOf, convV, buildV, fillV, partsV, okParts, fillL, D.whole, D.demoteC, D.demote, demoteL, D.global, D.flat, D.leaf, D.cells, TI.agg, TD.rowish, callOpV, moveL, CC, keepB, St.borrowL, St.borrow, D.isLsl, adoptR, adoptC, adoptCL, adoptL, adopt, List.toArray, Array.toList, Nat.reduceEqDiff, Nat.reduceAdd, Nat.reduceSub, Nat.reduceMul, Nat.reduceLeDiff, Nat.reduceLT, reduceIte, reduceCtorEq, forall_const, imp_self, Int.reduceNeg, Int.reduceLT, Int.reduceLE, Int.reduceGT, Int.reduceGE, Int.reduceAdd, Int.reduceSub, Int.reduceMul, Int.reduceToNat, Int.reduceEq, ne_eq, eq_self]
          · cases sq <;>
            (simp only [st5_1, lp5_1, subC, atC, Tryd.f5, an5, g0, w1, w2, w3, l2, l3, n1, n2, hp, h, hpq, g1, x1, x2, z1, z2, j0, AL, T3, T4, T24, T39, T40, T41, T42, T49, T57, T59, EL, List.replicate_succ, stepD, accs, accP, accW, simpleOp, isAl, isExt, flipD, D.fresh1, D.row, D.plain, D.plain.plainL, St.close, St.close1, St.borrow, retV, resV, resL, outCL, outC, outL, outD, wantedV, opV, An.mid, thawV, D.plainU, prune, envOf, get, put, eval, evalT, nz, argsV, capsV, ofV, binV, binV.aggV, unV, intV, eqOp, isConst, natV, optV, loadV, loadC, storeV, setC, St.at_, partV, partTy, indexAddrV, fieldAddrV, sliceV, sliceV.rowSl, sliceV.strSl, bounds, cutP, builtinV, lenV, maxL, maxV, appendV, St.elems, roomy, rowOf, rowS, isStr, esz, tdOf, convV, buildV, fillV, partsV, okParts, fillL, D.whole, D.demoteC, D.demote, demoteL, D.global, D.flat, D.leaf, D.cells, TI.agg, TD.rowish, callOpV, moveL, CC, keepB, St.borrowL, St.borrow, D.isLsl, adoptR, adoptC, adoptCL, adoptL, adopt, List.toArray, Array.toList, Nat.reduceEqDiff, Nat.reduceAdd, Nat.reduceSub, Nat.reduceMul, Nat.reduceLeDiff, Nat.reduceLT, reduceIte, reduceCtorEq, forall_const, imp_self, Int.reduceNeg, Int.reduceLT, Int.reduceLE, Int.reduceGT, Int.reduceGE, Int.reduceAdd, Int.reduceSub, Int.reduceMul, Int.reduceToNat, Int.reduceEq, ne_eq, eq_self]
             refine ⟨_, rfl, ?_⟩
             show an5.at_ (some 19) _ = _
             simp only [an5, ren_map, toks_map, boxes_map, tlL, apN, AL, An.at_, tidyV, tidyW, tidyB, tidyT, sift, envBoxes, envToks, conToks, D.toks, D.tok1, toksL, D.boxes, D.box1, boxesL, memN, posN, renE, D.ren, D.ren1, renL, renB, St.content, St.boxOk, St.tokOk, trues, T3, T4, T24, T39, T40, T41, T42, T49, T57, T59, EL, List.replicate_succ, stepD, accs, accP, accW, simpleOp, isAl, isExt, flipD, D.fresh1, D.row, D.plain, D.plain.plainL, St.close, St.close1, St.borrow, retV, resV, resL, outCL, outC, outL, outD, wantedV, opV, An.mid, thawV, D.plainU, prune, envOf, get, put, eval, evalT, nz, argsV, capsV, ofV, binV, binV.aggV, unV, intV, eqOp, isConst, natV, optV, loadV, loadC, storeV, setC, St.at_, partV, partTy, indexAddrV, fieldAddrV, sliceV, sliceV.rowSl, sliceV.strSl, bounds, cutP, builtinV, lenV, maxL, maxV, appendV, St.elems, roomy, rowOf, rowS, isStr, esz, tdOf, convV, buildV, fillV, partsV, okParts, fillL, D.whole, D.demoteC, D.demote, demoteL, D.global, D.flat, D.leaf, D.cells, TI.agg, TD.rowish, callOpV, moveL, CC, keepB, St.borrowL, St.borrow, D.isLsl, adoptR, adoptC, adoptCL, adoptL, adopt, List.toArray, Array.toList, Nat.reduceEqDiff, Nat.reduceAdd, Nat.reduceSub, Nat.reduceMul, Nat.reduceLeDiff, Nat.reduceLT, reduceIte, reduceCtorEq, forall_const, imp_self, Int.reduceNeg, Int.reduceLT, Int.reduceLE, Int.reduceGT, Int.reduceGE, Int.reduceAdd, Int.reduceSub, Int.reduceMul, Int.reduceToNat, Int.reduceEq, ne_eq, eq_self])
  · right
    obtain rfl : q = 16 := by omega
    have g0 : ¬ ((16 : Nat) : Int) < 16 := by omega
    simp only [st5_1, lp5_1, subC, atC, Tryd.f5, an5, g0, T3, T4, T24, T39, T40, T41, T42, T49, T57, T59, EL, List.replicate_succ, stepD, accs, accP, accW, simpleOp, isAl, isExt, flipD, D.fresh1, D.row, D.plain, D.plain.plainL, St.close, St.close1, St.borrow, retV, resV, resL, outCL, outC, outL, outD, wantedV, opV, An.mid, thawV, D.plainU, prune, envOf, get, put, eval, evalT, nz, argsV, capsV, ofV, binV, binV.aggV, unV, intV, eqOp, isConst, natV, optV, loadV, loadC, storeV, setC, St.at_, partV, partTy, indexAddrV, fieldAddrV, sliceV, sliceV.rowSl, sliceV.strSl, bounds, cutP, builtinV, lenV, maxL, maxV, appendV, St.elems, roomy, rowOf, rowS, isStr, esz, tdOf, convV, buildV, fillV, partsV, okParts, fillL, D.whole, D.demoteC, D.demote, demoteL, D.global, D.flat, D.leaf, D.cells, TI.agg, TD.rowish, callOpV, moveL, CC, keepB, St.borrowL, St.borrow, D.isLsl, adoptR, adoptC, adoptCL, adoptL, adopt, List.toArray, Array.toList, Nat.reduceEqDiff, Nat.reduceAdd, Nat.reduceSub, Nat.reduceMul, Nat.reduceLeDiff, Nat.reduceLT, reduceIte, reduceCtorEq, forall_const, imp_self, Int.reduceNeg, Int.reduceLT, Int.reduceLE, Int.reduceGT, Int.reduceGE, Int.reduceAdd, Int.reduceSub, Int.reduceMul, Int.reduceToNat, Int.reduceEq, ne_eq, eq_self]
    exact ⟨_, _, rfl, by simp, rfl, _, _, rfl, hI, rfl, rfl, rfl, rfl, rfl, rfl, rfl, rfl, rfl, rfl, rfl⟩

end Go.Proofs.YtbbbhalmlboapaaDoor.V
