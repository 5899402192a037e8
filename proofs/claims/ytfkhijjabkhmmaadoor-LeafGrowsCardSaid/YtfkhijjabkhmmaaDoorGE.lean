/-
Layer 8: cells out of loads.
-/
import Derived.Test.YtfkhijjabkhmmaaDoorGD
namespace Go.Proofs.YtfkhijjabkhmmaaDoor.V
open Go Go.RowKit
set_option linter.unusedSimpArgs false
set_option linter.unusedVariables false

/-! warren/leaf.take -/
def an44 : An := ⟨fun | 7 => some [0, 2, 3, 4, 29, 30] | _ => .none, fun | 27 => 1 | _ => 0, fun | 1 => true | _ => false, fun _ => .none⟩
noncomputable def fi44 : FI := ⟨1, 42, Tryd.f44.body.getD .skip, Tryd.f44.results.toList, an44, false, false, false⟩
theorem ok44 : FnOk Tryd.prog 44 fi44 := ⟨⟨Tryd.f44, Tryd.func44, by kernel_rfl, rfl, rfl, rfl⟩, by decide, by kernel_rfl, fun h => by cases h⟩
noncomputable def lp44_0 : Code := subC [1, 1, 1, 1, 0, 1, 0, 0] (Tryd.f44.body.getD .skip)   -- head 7 keep [0, 2, 3, 4, 29, 30]
/-! warren/leaf.Decode -/
def an14 : An := ⟨fun | 4 => some [0, 4, 5, 10, 11] | _ => .none, fun _ => 0, fun _ => false, fun _ => .none⟩
noncomputable def fi14 : FI := ⟨1, 51, Tryd.f14.body.getD .skip, Tryd.f14.results.toList, an14, false, true, false⟩
theorem ok14 : FnOk Tryd.prog 14 fi14 := ⟨⟨Tryd.f14, Tryd.func14, by kernel_rfl, rfl, rfl, rfl⟩, by decide, by kernel_rfl, fun h => by cases h⟩
noncomputable def lp14_0 : Code := subC [1, 1, 1, 0, 1, 0, 0] (Tryd.f14.body.getD .skip)   -- head 4 keep [0, 4, 5, 10, 11]
structure Lib08D (C : Callees) : Prop extends Lib08C C where
  f44 : Has T C 44 fi44
  f14 : Has T C 14 fi14

variable {C : Callees}

theorem dyn_eq {T : Tab} {an : An} {C : Callees} {ops : List Oper} {acc : List (List Acc)} {k : Kont} {st : St} (h : okAccs ops acc = true) : goDyn T an C ops [] acc k st = goX T an C k .norm st := dyn_done (T := T) (an := an) (C := C) id h rfl
theorem end_t0 {r : D} {B' : Hp} (h : r.under 0 = true) : endV true [] r B' = some (r, []) := by
  unfold endV
  rw [cond_true, if_pos ⟨h, .inl rfl⟩]; rfl

def Bd (s : RS) : Prop := ∀ l, s = some l → l.length ≤ 1000000
theorem Bd.num {s : RS} (h : Bd s) (m : Nat) : Bd (numP s m).1 := fun l hl => by
  cases s with
  | none => cases hl
  | some q =>
    have := numS_len (l := q) (r := l) (m := m) (n := (numS q m).2) (by rw [← hl]; rfl)
    have := h q rfl
    omega
theorem Bd.bytes {s : RS} (h : Bd s) (m : Nat) : Bd (bytesP s m).1 := fun l hl => by
  obtain ⟨q, e1, _, e2⟩ := bytesP_len hl
  have := h q e1
  omega

/-! ### Bytes, one by one -/
def goB (s : RS) : Nat → RS × List UInt8
  | 0 => (s, [])
  | i + 1 => ((byteP (goB s i).1).1, (goB s i).2 ++ [UInt8.ofNat (byteP (goB s i).1).2])
theorem goB_len (s : RS) : ∀ i, (goB s i).2.length = i
  | 0 => rfl
  | i + 1 => by simp [goB, goB_len s i]
theorem goB_ok (q : List UInt8) : ∀ i, i ≤ q.length → goB (some q) i = (some (q.drop i), q.take i)
  | 0, _ => by simp [goB]
  | i + 1, h => by
    rw [goB, goB_ok q i (by omega)]
    simp only
    rw [List.drop_eq_getElem_cons (by omega : i < q.length), List.take_add_one, List.getElem?_eq_getElem (by omega : i < q.length)]
    simp [byteP]
theorem goB_none : ∀ i, (goB .none i).1 = .none
  | 0 => rfl
  | i + 1 => by rw [goB, goB_none i]; rfl
theorem goB_no (q : List UInt8) : ∀ i, q.length < i → (goB (some q) i).1 = .none
  | 0, h => by omega
  | i + 1, h => by
    rw [goB]
    rcases Nat.lt_or_ge q.length i with h1 | h1
    · rw [goB_no q i h1]; rfl
    · rw [goB_ok q i (by omega)]
      have : q.drop i = [] := List.drop_of_length_le (by omega)
      simp only
      rw [this]; rfl
theorem byteP_lt (s : RS) : (byteP s).2 < 256 := by
  rcases s with _ | _ | ⟨c, l⟩
  · decide
  · decide
  · exact c.toNat_lt

/-- The next cell, when its key and its number are read. -/
def takeB (k : Ky) (p : RS × Nat) : RS × Ce :=
  if p.2 > 64 then
    ((byteP (byteP p.1).1).1, ⟨k, [], (p.2 : Nat), (((byteP p.1).2 * 256 + (byteP (byteP p.1).1).2 : Nat) : Int)⟩)
  else ((goB p.1 p.2).1, ⟨k, (goB p.1 p.2).2, (p.2 : Nat), 0⟩)
/-- The next cell. -/
def takeP (s : RS) : RS × Ce := takeB (bytesP s 40).2 (numP (bytesP s 40).1 2048)
theorem takeP_of {s s1 : RS} {k : Ky} {p : RS × Nat} (hb : bytesP s 40 = (s1, k)) (hn : numP s1 2048 = p) : takeP s = takeB k p := by
  unfold takeP
  rw [hb, ← hn]
theorem takeB_far {k : Ky} {s : RS} {g : Nat} (h : 64 < g) : takeB k (s, g) = ((byteP (byteP s).1).1, ⟨k, [], (g : Nat), (((byteP s).2 * 256 + (byteP (byteP s).1).2 : Nat) : Int)⟩) := if_pos h
theorem takeB_near {k : Ky} {s : RS} {g : Nat} (h : ¬ 64 < g) : takeB k (s, g) = ((goB s g).1, ⟨k, (goB s g).2, (g : Nat), 0⟩) := if_neg h

theorem take_some {q r : List UInt8} {c : Ce} (h : cellS q = some (c, r)) : takeP (some q) = (some r, c) := by
  unfold cellS at h
  rcases hb : bytesP (some q) 40 with ⟨_ | q1, k⟩
  · rw [hb] at h; cases h
  · rw [hb] at h
    simp only at h
    rcases hn : numS q1 2048 with ⟨_ | q2, g⟩
    · rw [hn] at h; cases h
    · rw [hn] at h
      rw [takeP_of hb (show numP (some q1) 2048 = _ from hn)]
      simp only at h
      by_cases hg : 64 < g
      · rw [if_pos hg] at h
        rw [takeB_far hg]
        match q2, h with
        | [], h => cases h
        | [_], h => cases h
        | a :: b :: r2, h =>
          injection h with h
          injection h with h1 h2
          subst h1 h2
          rfl
      · rw [if_neg hg] at h
        rw [takeB_near hg]
        split at h
        · rename_i hle
          injection h with h
          injection h with h1 h2
          subst h1 h2
          rw [goB_ok q2 g hle]
        · cases h
theorem take_none {q : List UInt8} (h : cellS q = .none) : (takeP (some q)).1 = .none := by
  unfold cellS at h
  rcases hb : bytesP (some q) 40 with ⟨_ | q1, k⟩
  · rw [takeP_of hb rfl]; exact goB_none 0
  · rw [hb] at h
    simp only at h
    rcases hn : numS q1 2048 with ⟨_ | q2, g⟩
    · have : g = 0 := by
        have := numP_zero (s := some q1) (m := 2048) (by simp only [numP]; rw [hn])
        simp only [numP] at this
        rw [hn] at this; exact this
      subst this
      rw [takeP_of hb (show numP (some q1) 2048 = _ from hn)]
      exact goB_none 0
    · rw [hn] at h
      rw [takeP_of hb (show numP (some q1) 2048 = _ from hn)]
      simp only at h
      by_cases hg : 64 < g
      · rw [if_pos hg] at h
        rw [takeB_far hg]
        match q2, h with
        | [], _ => rfl
        | [_], _ => rfl
        | a :: b :: r2, h => cases h
      · rw [if_neg hg] at h
        rw [takeB_near hg]
        split at h
        · cases h
        · exact goB_no q2 g (by omega)
theorem take_no : (takeP .none).1 = .none := goB_none 0
theorem take_short (s : RS) : (takeP s).2.v.length ≤ 64 := by
  rcases hp : numP (bytesP s 40).1 2048 with ⟨s2, g⟩
  rw [takeP_of rfl hp]
  by_cases hg : 64 < g
  · rw [takeB_far hg]; simp
  · rw [takeB_near hg]
    show (goB s2 g).2.length ≤ 64
    rw [goB_len]; omega

theorem i64_or8c {x y : Nat} (hx : x < 256) (hy : y < 256) : bitsV .or .i64 ((x * 256 : Nat) : Int) (y : Int) = ((x * 256 + y : Nat) : Int) := by
  have h3 : x * 256 ||| y = x * 256 + y := by
    rw [show x * 256 = x <<< 8 by rw [Nat.shiftLeft_eq], ← Nat.shiftLeft_add_eq_or_of_lt (by omega)]
  have h1 : (BitVec.ofNat 64 (x * 256) ||| BitVec.ofNat 64 y).toNat = x * 256 + y := by
    rw [BitVec.toNat_or, BitVec.toNat_ofNat, BitVec.toNat_ofNat, Nat.mod_eq_of_lt (by omega), Nat.mod_eq_of_lt (by omega), h3]
  show IntKind.i64.wrap (((BitVec.ofInt 64 ((x * 256 : Nat) : Int) ||| BitVec.ofInt 64 (y : Int)).toNat : Nat) : Int) = _
  rw [ofInt_nat, ofInt_nat, h1, wrapI (by omega) (by omega)]
theorem shl8c {x : Nat} (hx : x < 256) : shlV .i64 (x : Int) 8 = ((x * 256 : Nat) : Int) := by
  have : shlV .i64 (x : Int) 8 = IntKind.i64.wrap ((x : Int) * 256) := rfl
  rw [this, wrapI (by omega) (by omega)]; omega

abbrev zCe : List D := [.str [], .str [], .int .i64 0, .int .i64 0]
def st44 (k : Ky) (g : Nat) (s : RS) (i : Nat) : St := ⟨[(0, .bptr 0 0), (2, .lptr 0 0), (3, .lptr 1 0), (4, .vec 1 ((goB s i).2.map byteD) (bif Nat.beq g 0 then .exact else .own 0)), (29, .int .i64 (g : Nat)), (30, .int .i64 (i : Nat))], [some zCe, some [.str k, .str [], .int .i64 (g : Nat), .int .i64 0]], bif Nat.beq g 0 then [] else [true], [rdD (goB s i).1]⟩

theorem goB_bd {s : RS} (h : Bd s) : ∀ i, Bd (goB s i).1
  | 0 => h
  | i + 1 => fun l hl => by
    rw [goB] at hl
    have ih := goB_bd h i
    rcases hs : (goB s i).1 with _ | _ | ⟨c, q⟩
    · rw [hs] at hl; cases hl
    · rw [hs] at hl; cases hl
    · rw [hs] at hl
      injection hl with hl
      subst hl
      have := ih _ hs
      simp at this; omega

set_option maxRecDepth 20000 in
set_option maxHeartbeats 1000000 in
theorem loop44 (hC : Lib08C C) (k : Ky) (g : Nat) (hg : g ≤ 64) (s : RS) (st : St) (hst : an44.at_ (some 7) st = st44 k g s 0) :
    ∃ x st', loopC T an44 C lp44_0 st = some (x, st') ∧ x = .exit 0 ∧ ∃ ρ p τ, st' = ⟨ρ, [some zCe, some [.str k, .str [], .int .i64 (g : Nat), .int .i64 0]], τ, [rdD (goB s g).1]⟩ ∧ get ρ 2 = .lptr 0 0 ∧ get ρ 3 = .lptr 1 0 ∧ get ρ 4 = .vec 1 ((goB s g).2.map byteD) p := by
  refine loop_rule (st44 k g s) (fun i => i ≤ g) (fun i => g - i) _ ?_ 0 st hst (Nat.zero_le _)
  intro i hi
  rcases Nat.lt_or_ge i g with h | h
  · left
    refine ⟨i + 1, ?_, by omega, by omega⟩
    have g0 : (i : Int) < g := by omega
    have w1 : IntKind.i64.wrap ((i : Int) + 1) = ((i + 1 : Nat) : Int) := by rw [wrapI (by omega) (by omega)]; rfl
    have c1 := c72 hC.toLibPackB (goB s i).1
    have hb := byteP_lt (goB s i).1
    have hlen := goB_len s i
    have k0 : Nat.beq g 0 = false := by
      cases g with
      | zero => omega
      | succ g => rfl
    have a1 := fun ρ M B => app_own (xs := (goB s i).2) (ys := [UInt8.ofNat (byteP (goB s i).1).2]) (i := 0) (τ := [true]) rfl (by simp [hlen]; omega) ρ M B
    have e1 : goB s (i + 1) = ((byteP (goB s i).1).1, (goB s i).2 ++ [UInt8.ofNat (byteP (goB s i).1).2]) := rfl
    unfold st44
    rw [e1]
    simp only
    have hto : ((UInt8.ofNat (byteP (goB s i).1).2).toNat : Int) = (byteP (goB s i).1).2 := by rw [UInt8.toNat_ofNat', Nat.mod_eq_of_lt hb]
    simp only [List.map_cons, List.map_nil, byteD, hto] at a1
    generalize (goB s i).2 ++ [UInt8.ofNat (byteP (goB s i).1).2] = xs at a1
    generalize (byteP (goB s i).1).2 = b at c1 a1
    generalize (byteP (goB s i).1).1 = s1 at c1
    generalize (goB s i).1 = s0 at c1
    simp only [k0, cond_false]
    simp only [st44, lp44_0, subC, atC, Tryd.f44, an44, g0, w1, c1, a1, T3, T5, T9, T23, T45, T84, EL, e_finWf, e_finWt, e_finMN, e_finMX, retM, meltV, tupV, D.asBox, D.row1, D.freeR, D.freeO, List.replicate_succ, stepD, accs, accP, accW, simpleOp, isAl, isExt, flipD, D.fresh1, D.row, D.plain, D.plain.plainL, St.close, St.close1, St.borrow, retV, resV, resL, outCL, outC, outL, outD, wantedV, opV, An.mid, thawV, St.settle, D.plainU, prune, envOf, get, put, eval, evalT, nz, argsV, capsV, ofV, binV, binV.aggV, unV, intV, eqOp, isConst, natV, optV, loadV, loadC, storeV, setC, St.at_, partV, partTy, indexAddrV, fieldAddrV, sliceV, sliceV.rowSl, sliceV.strSl, bounds, cutP, builtinV, lenV, maxL, maxV, St.elems, roomy, rowOf, rowS, isStr, esz, tdOf, convV, buildV, fillV, partsV, okParts, fillL, D.whole, D.demoteC, D.demote, demoteL, D.global, D.flat, D.leaf, D.cells, TI.agg, TD.rowish, callOpV, moveL, CC, keepB, St.borrowL, St.borrow, D.isLsl, adoptR, adoptC, adoptCL, adoptL, adopt, List.toArray, Array.toList, Nat.reduceEqDiff, Nat.reduceAdd, Nat.reduceSub, Nat.reduceMul, Nat.reduceLeDiff, Nat.reduceLT, reduceIte, reduceCtorEq, forall_const, imp_self, Int.reduceNeg, Int.reduceLT, Int.reduceLE, Int.reduceGT, Int.reduceGE, Int.reduceAdd, Int.reduceSub, Int.reduceMul, Int.reduceToNat, Int.reduceEq, ne_eq, eq_self]
    exact ⟨_, rfl, rfl⟩
  · right
    obtain rfl : i = g := by omega
    have g0 : ¬ (i : Int) < i := by omega
    simp only [st44, lp44_0, subC, atC, Tryd.f44, an44, g0, T3, T5, T9, T23, T45, T84, EL, e_finWf, e_finWt, e_finMN, e_finMX, retM, meltV, tupV, D.asBox, D.row1, D.freeR, D.freeO, List.replicate_succ, stepD, accs, accP, accW, simpleOp, isAl, isExt, flipD, D.fresh1, D.row, D.plain, D.plain.plainL, St.close, St.close1, St.borrow, retV, resV, resL, outCL, outC, outL, outD, wantedV, opV, An.mid, thawV, St.settle, D.plainU, prune, envOf, get, put, eval, evalT, nz, argsV, capsV, ofV, binV, binV.aggV, unV, intV, eqOp, isConst, natV, optV, loadV, loadC, storeV, setC, St.at_, partV, partTy, indexAddrV, fieldAddrV, sliceV, sliceV.rowSl, sliceV.strSl, bounds, cutP, builtinV, lenV, maxL, maxV, appendV, St.elems, roomy, rowOf, rowS, isStr, esz, tdOf, convV, buildV, fillV, partsV, okParts, fillL, D.whole, D.demoteC, D.demote, demoteL, D.global, D.flat, D.leaf, D.cells, TI.agg, TD.rowish, callOpV, moveL, CC, keepB, St.borrowL, St.borrow, D.isLsl, adoptR, adoptC, adoptCL, adoptL, adopt, List.toArray, Array.toList, Nat.reduceEqDiff, Nat.reduceAdd, Nat.reduceSub, Nat.reduceMul, Nat.reduceLeDiff, Nat.reduceLT, reduceIte, reduceCtorEq, forall_const, imp_self, Int.reduceNeg, Int.reduceLT, Int.reduceLE, Int.reduceGT, Int.reduceGE, Int.reduceAdd, Int.reduceSub, Int.reduceMul, Int.reduceToNat, Int.reduceEq, ne_eq, eq_self]
    exact ⟨_, _, rfl, by simp, rfl, _, _, _, rfl, rfl, rfl, rfl⟩

set_option maxRecDepth 20000 in
set_option maxHeartbeats 2000000 in
theorem run44 (hC : Lib08C C) (s : RS) (hs : Bd s) : runV T C fi44 [.bptr 0 0] [rdD s] = some (ceD (takeP s).2, [rdD (takeP s).1]) := by
  rw [e_run _ _ _ rfl]
  have c1 : C 71 [.bptr 0 0, .int .i64 40] [rdD s] = some (.vec 1 ((bytesP s 40).2.map byteD) .fresh, [rdD (bytesP s 40).1]) := c71 hC.toLibPackB s 40 (by decide) (by decide) hs
  have c2 : C 43 [.bptr 0 0, .int .u64 2048] [rdD (bytesP s 40).1] = some (.int .u64 ((numP (bytesP s 40).1 2048).2 : Nat), [rdD (numP (bytesP s 40).1 2048).1]) := c43 hC.toLibPack (bytesP s 40).1 2048 (hs.bytes 40)
  have hg2 := (numP_bnd (bytesP s 40).1 2048).1
  unfold takeP takeB
  rw [ceD_eq]
  generalize (numP (bytesP s 40).1 2048).2 = g at c2 hg2
  generalize (numP (bytesP s 40).1 2048).1 = s2 at c2
  generalize (bytesP s 40).2 = k at c1
  generalize (bytesP s 40).1 = s1 at c1 c2
  have w1 : IntKind.i64.wrap (g : Int) = g := wrapI (by omega) (by omega)
  have c3 := c51 hC.toLib08A (g : Int)
  by_cases hg : g > 64
  · have hgi : (g : Int) > 64 := by omega
    rw [decide_eq_true hgi] at c3
    have c4 := c72 hC.toLibPackB s2
    have c5 := c72 hC.toLibPackB (byteP s2).1
    have h1 := byteP_lt s2
    have h2 := byteP_lt (byteP s2).1
    simp only [hg, if_true]
    generalize (byteP (byteP s2).1).1 = s4 at c5
    generalize (byteP (byteP s2).1).2 = b at c5 h2
    generalize (byteP s2).1 = s3 at c4 c5
    generalize (byteP s2).2 = a at c4 h1
    have x1 : IntKind.i64.wrap (a : Int) = a := wrapI (by omega) (by omega)
    have x2 : IntKind.i64.wrap (b : Int) = b := wrapI (by omega) (by omega)
    have x3 := shl8c h1
    have x4 := i64_or8c h1 h2
    simp only [fi44, Tryd.f44, an44, c1, c2, w1, bytesOf_map, sC_nil, sC_zero, sC_succ, T3, T5, T9, T23, T45, T84, EL, e_finWf, e_finWt, e_finMN, e_finMX, retM, meltV, tupV, D.asBox, D.row1, D.freeR, D.freeO, List.replicate_succ, stepD, accs, accP, accW, simpleOp, isAl, isExt, flipD, D.fresh1, D.row, D.plain, D.plain.plainL, St.close, St.close1, St.borrow, retV, resV, resL, outCL, outC, outL, outD, wantedV, opV, An.mid, thawV, St.settle, D.plainU, prune, envOf, get, put, eval, evalT, nz, argsV, capsV, ofV, binV, binV.aggV, unV, intV, eqOp, isConst, natV, optV, loadV, loadC, storeV, St.at_, partV, partTy, indexAddrV, fieldAddrV, sliceV, sliceV.rowSl, sliceV.strSl, bounds, cutP, builtinV, lenV, maxL, maxV, appendV, St.elems, roomy, rowOf, rowS, isStr, esz, tdOf, convV, buildV, fillV, partsV, okParts, fillL, D.whole, D.demoteC, D.demote, demoteL, D.global, D.flat, D.leaf, D.cells, TI.agg, TD.rowish, callOpV, moveL, CC, keepB, St.borrowL, St.borrow, D.isLsl, adoptR, adoptC, adoptCL, adoptL, adopt, List.toArray, Array.toList, Nat.reduceEqDiff, Nat.reduceAdd, Nat.reduceSub, Nat.reduceMul, Nat.reduceLeDiff, Nat.reduceLT, reduceIte, reduceCtorEq, forall_const, imp_self, Int.reduceNeg, Int.reduceLT, Int.reduceLE, Int.reduceGT, Int.reduceGE, Int.reduceAdd, Int.reduceSub, Int.reduceMul, Int.reduceToNat, Int.reduceEq, ne_eq, eq_self]
    rw [dyn_eq]
    · simp only [c3, c4, c5, w1, x1, x2, x3, x4, sC_nil, sC_zero, sC_succ, T3, T5, T9, T23, T45, T84, EL, e_finWf, e_finWt, e_finMN, e_finMX, retM, meltV, tupV, D.asBox, D.row1, D.freeR, D.freeO, List.replicate_succ, stepD, accs, accP, accW, simpleOp, isAl, isExt, flipD, D.fresh1, D.row, D.plain, D.plain.plainL, St.close, St.close1, St.borrow, retV, resV, resL, outCL, outC, outL, outD, wantedV, opV, An.mid, thawV, St.settle, D.plainU, prune, envOf, get, put, eval, evalT, nz, argsV, capsV, ofV, binV, binV.aggV, unV, intV, eqOp, isConst, natV, optV, loadV, loadC, storeV, St.at_, partV, partTy, indexAddrV, fieldAddrV, sliceV, sliceV.rowSl, sliceV.strSl, bounds, cutP, builtinV, lenV, maxL, maxV, appendV, St.elems, roomy, rowOf, rowS, isStr, esz, tdOf, convV, buildV, fillV, partsV, okParts, fillL, D.whole, D.demoteC, D.demote, demoteL, D.global, D.flat, D.leaf, D.cells, TI.agg, TD.rowish, callOpV, moveL, CC, keepB, St.borrowL, St.borrow, D.isLsl, adoptR, adoptC, adoptCL, adoptL, adopt, List.toArray, Array.toList, Nat.reduceEqDiff, Nat.reduceAdd, Nat.reduceSub, Nat.reduceMul, Nat.reduceLeDiff, Nat.reduceLT, reduceIte, reduceCtorEq, forall_const, imp_self, Int.reduceNeg, Int.reduceLT, Int.reduceLE, Int.reduceGT, Int.reduceGE, Int.reduceAdd, Int.reduceSub, Int.reduceMul, Int.reduceToNat, Int.reduceEq, ne_eq, eq_self]
    · split <;> split <;> kernel_rfl
  · have hgi : ¬ (g : Int) > 64 := by omega
    rw [decide_eq_false hgi] at c3
    simp only [hg, if_false]
    have lp := loop44 hC k g (by omega) s2
    have z0 := pnat g
    have r1 : roomy g 1 = true := by simp only [roomy, nble, decide_eq_true_eq]; omega
    simp only [fi44, Tryd.f44, an44, c1, c2, w1, bytesOf_map, sC_nil, sC_zero, sC_succ, T3, T5, T9, T23, T45, T84, EL, e_finWf, e_finWt, e_finMN, e_finMX, retM, meltV, tupV, D.asBox, D.row1, D.freeR, D.freeO, List.replicate_succ, stepD, accs, accP, accW, simpleOp, isAl, isExt, flipD, D.fresh1, D.row, D.plain, D.plain.plainL, St.close, St.close1, St.borrow, retV, resV, resL, outCL, outC, outL, outD, wantedV, opV, An.mid, thawV, St.settle, D.plainU, prune, envOf, get, put, eval, evalT, nz, argsV, capsV, ofV, binV, binV.aggV, unV, intV, eqOp, isConst, natV, optV, loadV, loadC, storeV, St.at_, partV, partTy, indexAddrV, fieldAddrV, sliceV, sliceV.rowSl, sliceV.strSl, bounds, cutP, builtinV, lenV, maxL, maxV, appendV, St.elems, roomy, rowOf, rowS, isStr, esz, tdOf, convV, buildV, fillV, partsV, okParts, fillL, D.whole, D.demoteC, D.demote, demoteL, D.global, D.flat, D.leaf, D.cells, TI.agg, TD.rowish, callOpV, moveL, CC, keepB, St.borrowL, St.borrow, D.isLsl, adoptR, adoptC, adoptCL, adoptL, adopt, List.toArray, Array.toList, Nat.reduceEqDiff, Nat.reduceAdd, Nat.reduceSub, Nat.reduceMul, Nat.reduceLeDiff, Nat.reduceLT, reduceIte, reduceCtorEq, forall_const, imp_self, Int.reduceNeg, Int.reduceLT, Int.reduceLE, Int.reduceGT, Int.reduceGE, Int.reduceAdd, Int.reduceSub, Int.reduceMul, Int.reduceToNat, Int.reduceEq, ne_eq, eq_self]
    rw [dyn_eq]
    · cases hb : Nat.beq g 0 with
      | true =>
        obtain rfl : g = 0 := Nat.eq_of_beq_eq_true hb
        simp only [pz0] at c3 w1
        simp only [c3, w1, z0, r1, pz0, Int.toNat_natCast, sC_nil, sC_zero, sC_succ, T3, T5, T9, T23, T45, T84, EL, e_finWf, e_finWt, e_finMN, e_finMX, retM, meltV, tupV, D.asBox, D.row1, D.freeR, D.freeO, List.replicate_succ, stepD, accs, accP, accW, simpleOp, isAl, isExt, flipD, D.fresh1, D.row, D.plain, D.plain.plainL, St.close, St.close1, St.borrow, retV, resV, resL, outCL, outC, outL, outD, wantedV, opV, An.mid, thawV, St.settle, D.plainU, prune, envOf, get, put, eval, evalT, nz, argsV, capsV, ofV, binV, binV.aggV, unV, intV, eqOp, isConst, natV, optV, loadV, loadC, storeV, St.at_, partV, partTy, indexAddrV, fieldAddrV, sliceV, sliceV.rowSl, sliceV.strSl, bounds, cutP, builtinV, lenV, maxL, maxV, appendV, St.elems, rowOf, rowS, isStr, esz, tdOf, convV, buildV, fillV, partsV, okParts, fillL, D.whole, D.demoteC, D.demote, demoteL, D.global, D.flat, D.leaf, D.cells, TI.agg, TD.rowish, callOpV, moveL, CC, keepB, St.borrowL, St.borrow, D.isLsl, adoptR, adoptC, adoptCL, adoptL, adopt, List.toArray, Array.toList, Nat.reduceEqDiff, Nat.reduceAdd, Nat.reduceSub, Nat.reduceMul, Nat.reduceLeDiff, Nat.reduceLT, reduceIte, reduceCtorEq, forall_const, imp_self, Int.reduceNeg, Int.reduceLT, Int.reduceLE, Int.reduceGT, Int.reduceGE, Int.reduceAdd, Int.reduceSub, Int.reduceMul, Int.reduceToNat, Int.reduceEq, ne_eq, eq_self]
        refine' in_loop (c' := lp44_0) (fin T _ _ _) ?h rfl ?q; case h => refine lp _ ?_; simp only [an44, ren_map, toks_map, boxes_map, st44, goB, pz0, An.at_, tidyV, tidyW, tidyB, tidyT, sift, envBoxes, envToks, conToks, D.toks, D.tok1, toksL, D.boxes, D.box1, boxesL, memN, posN, renE, D.ren, D.ren1, renL, renB, St.content, St.boxOk, St.tokOk, trues, T3, T5, T9, T23, T45, T84, EL, e_finWf, e_finWt, e_finMN, e_finMX, retM, meltV, tupV, D.asBox, D.row1, D.freeR, D.freeO, List.replicate_succ, stepD, accs, accP, accW, simpleOp, isAl, isExt, flipD, D.fresh1, D.row, D.plain, D.plain.plainL, St.close, St.close1, St.borrow, retV, resV, resL, outCL, outC, outL, outD, wantedV, opV, An.mid, thawV, St.settle, D.plainU, prune, envOf, get, put, eval, evalT, nz, argsV, capsV, ofV, binV, binV.aggV, unV, intV, eqOp, isConst, natV, optV, loadV, loadC, storeV, setC, St.at_, partV, partTy, indexAddrV, fieldAddrV, sliceV, sliceV.rowSl, sliceV.strSl, bounds, cutP, builtinV, lenV, maxL, maxV, appendV, St.elems, roomy, rowOf, rowS, isStr, esz, tdOf, convV, buildV, fillV, partsV, okParts, fillL, D.whole, D.demoteC, D.demote, demoteL, D.global, D.flat, D.leaf, D.cells, TI.agg, TD.rowish, callOpV, moveL, CC, keepB, St.borrowL, St.borrow, D.isLsl, adoptR, adoptC, adoptCL, adoptL, adopt, List.toArray, Array.toList, Nat.reduceEqDiff, Nat.reduceAdd, Nat.reduceSub, Nat.reduceMul, Nat.reduceLeDiff, Nat.reduceLT, reduceIte, reduceCtorEq, forall_const, imp_self, Int.reduceNeg, Int.reduceLT, Int.reduceLE, Int.reduceGT, Int.reduceGE, Int.reduceAdd, Int.reduceSub, Int.reduceMul, Int.reduceToNat, Int.reduceEq, ne_eq, eq_self]
        rintro x st' ⟨rfl, ρ, p, τ, rfl, r2, r3, r4⟩
        simp only [r2, r3, r4, bytesOf_map, pz0, sC_nil, sC_zero, sC_succ, T3, T5, T9, T23, T45, T84, EL, e_finWf, e_finWt, e_finMN, e_finMX, retM, meltV, tupV, D.asBox, D.row1, D.freeR, D.freeO, List.replicate_succ, stepD, accs, accP, accW, simpleOp, isAl, isExt, flipD, D.fresh1, D.row, D.plain, D.plain.plainL, St.close, St.close1, St.borrow, retV, resV, resL, outCL, outC, outL, outD, wantedV, opV, An.mid, thawV, St.settle, D.plainU, prune, envOf, get, put, eval, evalT, nz, argsV, capsV, ofV, binV, binV.aggV, unV, intV, eqOp, isConst, natV, optV, loadV, loadC, storeV, St.at_, partV, partTy, indexAddrV, fieldAddrV, sliceV, sliceV.rowSl, sliceV.strSl, bounds, cutP, builtinV, lenV, maxL, maxV, appendV, St.elems, roomy, rowOf, rowS, isStr, esz, tdOf, convV, buildV, fillV, partsV, okParts, fillL, D.whole, D.demoteC, D.demote, demoteL, D.global, D.flat, D.leaf, D.cells, TI.agg, TD.rowish, callOpV, moveL, CC, keepB, St.borrowL, St.borrow, D.isLsl, adoptR, adoptC, adoptCL, adoptL, adopt, List.toArray, Array.toList, Nat.reduceEqDiff, Nat.reduceAdd, Nat.reduceSub, Nat.reduceMul, Nat.reduceLeDiff, Nat.reduceLT, reduceIte, reduceCtorEq, forall_const, imp_self, Int.reduceNeg, Int.reduceLT, Int.reduceLE, Int.reduceGT, Int.reduceGE, Int.reduceAdd, Int.reduceSub, Int.reduceMul, Int.reduceToNat, Int.reduceEq, ne_eq, eq_self]
      | false =>
        have hne : ¬ (0 : Int) = g := by
          intro e
          have : g = 0 := by omega
          subst this
          cases hb
        simp only [c3, w1, z0, r1, hne, Int.toNat_natCast, sC_nil, sC_zero, sC_succ, T3, T5, T9, T23, T45, T84, EL, e_finWf, e_finWt, e_finMN, e_finMX, retM, meltV, tupV, D.asBox, D.row1, D.freeR, D.freeO, List.replicate_succ, stepD, accs, accP, accW, simpleOp, isAl, isExt, flipD, D.fresh1, D.row, D.plain, D.plain.plainL, St.close, St.close1, St.borrow, retV, resV, resL, outCL, outC, outL, outD, wantedV, opV, An.mid, thawV, St.settle, D.plainU, prune, envOf, get, put, eval, evalT, nz, argsV, capsV, ofV, binV, binV.aggV, unV, intV, eqOp, isConst, natV, optV, loadV, loadC, storeV, St.at_, partV, partTy, indexAddrV, fieldAddrV, sliceV, sliceV.rowSl, sliceV.strSl, bounds, cutP, builtinV, lenV, maxL, maxV, appendV, St.elems, rowOf, rowS, isStr, esz, tdOf, convV, buildV, fillV, partsV, okParts, fillL, D.whole, D.demoteC, D.demote, demoteL, D.global, D.flat, D.leaf, D.cells, TI.agg, TD.rowish, callOpV, moveL, CC, keepB, St.borrowL, St.borrow, D.isLsl, adoptR, adoptC, adoptCL, adoptL, adopt, List.toArray, Array.toList, Nat.reduceEqDiff, Nat.reduceAdd, Nat.reduceSub, Nat.reduceMul, Nat.reduceLeDiff, Nat.reduceLT, reduceIte, reduceCtorEq, forall_const, imp_self, Int.reduceNeg, Int.reduceLT, Int.reduceLE, Int.reduceGT, Int.reduceGE, Int.reduceAdd, Int.reduceSub, Int.reduceMul, Int.reduceToNat, Int.reduceEq, ne_eq, eq_self]
        refine' in_loop (c' := lp44_0) (fin T _ _ _) ?h2 rfl ?q2; case h2 => refine lp _ ?_; simp only [an44, ren_map, toks_map, boxes_map, st44, goB, hb, cond_false, An.at_, tidyV, tidyW, tidyB, tidyT, sift, envBoxes, envToks, conToks, D.toks, D.tok1, toksL, D.boxes, D.box1, boxesL, memN, posN, renE, D.ren, D.ren1, renL, renB, St.content, St.boxOk, St.tokOk, trues, T3, T5, T9, T23, T45, T84, EL, e_finWf, e_finWt, e_finMN, e_finMX, retM, meltV, tupV, D.asBox, D.row1, D.freeR, D.freeO, List.replicate_succ, stepD, accs, accP, accW, simpleOp, isAl, isExt, flipD, D.fresh1, D.row, D.plain, D.plain.plainL, St.close, St.close1, St.borrow, retV, resV, resL, outCL, outC, outL, outD, wantedV, opV, An.mid, thawV, St.settle, D.plainU, prune, envOf, get, put, eval, evalT, nz, argsV, capsV, ofV, binV, binV.aggV, unV, intV, eqOp, isConst, natV, optV, loadV, loadC, storeV, setC, St.at_, partV, partTy, indexAddrV, fieldAddrV, sliceV, sliceV.rowSl, sliceV.strSl, bounds, cutP, builtinV, lenV, maxL, maxV, appendV, St.elems, roomy, rowOf, rowS, isStr, esz, tdOf, convV, buildV, fillV, partsV, okParts, fillL, D.whole, D.demoteC, D.demote, demoteL, D.global, D.flat, D.leaf, D.cells, TI.agg, TD.rowish, callOpV, moveL, CC, keepB, St.borrowL, St.borrow, D.isLsl, adoptR, adoptC, adoptCL, adoptL, adopt, List.toArray, Array.toList, Nat.reduceEqDiff, Nat.reduceAdd, Nat.reduceSub, Nat.reduceMul, Nat.reduceLeDiff, Nat.reduceLT, reduceIte, reduceCtorEq, forall_const, imp_self, Int.reduceNeg, Int.reduceLT, Int.reduceLE, Int.reduceGT, Int.reduceGE, Int.reduceAdd, Int.reduceSub, Int.reduceMul, Int.reduceToNat, Int.reduceEq, ne_eq, eq_self]; rfl
        rintro x st' ⟨rfl, ρ, p, τ, rfl, r2, r3, r4⟩
        simp only [r2, r3, r4, bytesOf_map, sC_nil, sC_zero, sC_succ, T3, T5, T9, T23, T45, T84, EL, e_finWf, e_finWt, e_finMN, e_finMX, retM, meltV, tupV, D.asBox, D.row1, D.freeR, D.freeO, List.replicate_succ, stepD, accs, accP, accW, simpleOp, isAl, isExt, flipD, D.fresh1, D.row, D.plain, D.plain.plainL, St.close, St.close1, St.borrow, retV, resV, resL, outCL, outC, outL, outD, wantedV, opV, An.mid, thawV, St.settle, D.plainU, prune, envOf, get, put, eval, evalT, nz, argsV, capsV, ofV, binV, binV.aggV, unV, intV, eqOp, isConst, natV, optV, loadV, loadC, storeV, St.at_, partV, partTy, indexAddrV, fieldAddrV, sliceV, sliceV.rowSl, sliceV.strSl, bounds, cutP, builtinV, lenV, maxL, maxV, appendV, St.elems, roomy, rowOf, rowS, isStr, esz, tdOf, convV, buildV, fillV, partsV, okParts, fillL, D.whole, D.demoteC, D.demote, demoteL, D.global, D.flat, D.leaf, D.cells, TI.agg, TD.rowish, callOpV, moveL, CC, keepB, St.borrowL, St.borrow, D.isLsl, adoptR, adoptC, adoptCL, adoptL, adopt, List.toArray, Array.toList, Nat.reduceEqDiff, Nat.reduceAdd, Nat.reduceSub, Nat.reduceMul, Nat.reduceLeDiff, Nat.reduceLT, reduceIte, reduceCtorEq, forall_const, imp_self, Int.reduceNeg, Int.reduceLT, Int.reduceLE, Int.reduceGT, Int.reduceGE, Int.reduceAdd, Int.reduceSub, Int.reduceMul, Int.reduceToNat, Int.reduceEq, ne_eq, eq_self]
    · split <;> split <;> kernel_rfl

theorem c44 (hC : Lib08D C) (s : RS) (hs : Bd s) : C 44 [.bptr 0 0] [rdD s] = some (ceD (takeP s).2, [rdD (takeP s).1]) := hC.f44 _ _ _ (run44 hC.toLib08C s hs)

/-! ### The reader: what holds at the loop's head -/
def decX (l : List UInt8) : Option (List Ce) := match numS l 504 with
  | (some q, n) => decN n q .none
  | (.none, _) => .none
theorem decC_eq (l : List UInt8) : decC l = if 504 < l.length then .none else decX l := rfl
def lastK (out : List Ce) : Option Ky := out.getLast?.map Ce.k
theorem lastK_snoc (out : List Ce) (c : Ce) : lastK (out ++ [c]) = some c.k := by simp [lastK]
theorem lastK_pos {out : List Ce} (h : 0 < out.length) : lastK out = some (out.getD (out.length - 1) default).k := by
  unfold lastK
  rw [List.getLast?_eq_getElem?, List.getElem?_eq_getElem (by omega), List.getD_eq_getElem?_getD, List.getElem?_eq_getElem (by omega)]; rfl

structure Inv8 (tgt : Option (List Ce)) (n : Nat) (s : RS) (out : List Ce) : Prop where
  ok : ∀ q, s = some q → tgt = (decN (n - out.length) q (lastK out)).map (out ++ ·)
  bad : s = .none → tgt = .none
  le : out.length ≤ n
  bd : Bd s
theorem Inv8.start {l : List UInt8} (hl : l.length ≤ 1000000) : Inv8 (decX l) (numS l 504).2 (numS l 504).1 [] := by
  have hb : Bd (numS l 504).1 := Bd.num (s := some l) (fun q e => by injection e with e; subst e; exact hl) 504
  refine ⟨fun q hq => ?_, fun hq => ?_, Nat.zero_le _, hb⟩
  · unfold decX
    rcases h : numS l 504 with ⟨s, n⟩
    rw [h] at hq
    simp only at hq
    subst hq
    simp [lastK]
  · unfold decX
    rcases h : numS l 504 with ⟨s, n⟩
    rw [h] at hq
    simp only at hq
    subst hq
    rfl
theorem take_bd {s : RS} (h : Bd s) : Bd (takeP s).1 := by
  have h1 := (h.bytes 40).num 2048
  rcases hp : numP (bytesP s 40).1 2048 with ⟨s2, g⟩
  rw [hp] at h1
  rw [takeP_of rfl hp]
  by_cases hg : 64 < g
  · rw [takeB_far hg]
    have h2 := goB_bd h1 2
    exact h2
  · rw [takeB_near hg]
    exact goB_bd h1 g
theorem Inv8.fail {tgt : Option (List Ce)} {n : Nat} {s : RS} {out : List Ce} (h : Inv8 tgt n s out) (hn : out.length < n) (hf : okC (takeP s).2 = false ∨ ordC (lastK out) (takeP s).2.k = false) : tgt = .none := by
  cases s with
  | none => exact h.bad rfl
  | some q =>
    obtain ⟨m, e⟩ : ∃ m, n - out.length = m + 1 := ⟨n - out.length - 1, by omega⟩
    rw [h.ok q rfl, e, decN]
    rcases hc : cellS q with _ | ⟨c, r⟩
    · rfl
    · rw [take_some hc] at hf
      simp only at hf ⊢
      rw [if_neg (by rcases hf with hf | hf <;> rw [hf] <;> simp)]
      rfl
theorem Inv8.step {tgt : Option (List Ce)} {n : Nat} {s : RS} {out : List Ce} (h : Inv8 tgt n s out) (hn : out.length < n) (h1 : okC (takeP s).2 = true) (h2 : ordC (lastK out) (takeP s).2.k = true) : Inv8 tgt n (takeP s).1 (out ++ [(takeP s).2]) := by
  have hb := take_bd h.bd
  refine ⟨fun r hr => ?_, fun hr => ?_, by simp; omega, hb⟩
  · cases s with
    | none => rw [take_no] at hr; cases hr
    | some q =>
      obtain ⟨m, e⟩ : ∃ m, n - out.length = m + 1 := ⟨n - out.length - 1, by omega⟩
      rcases hc : cellS q with _ | ⟨c, r'⟩
      · rw [take_none hc] at hr; cases hr
      · rw [take_some hc] at hr h1 h2 ⊢
        simp only at hr h1 h2 ⊢
        injection hr with hr
        subst hr
        rw [h.ok q rfl, e, decN, hc]
        simp only
        rw [if_pos ⟨h1, h2⟩, lastK_snoc, Option.map_map, show n - (out ++ [c]).length = m by simp; omega]
        congr 1
        funext acc
        simp
  · cases s with
    | none => exact h.bad rfl
    | some q =>
      obtain ⟨m, e⟩ : ∃ m, n - out.length = m + 1 := ⟨n - out.length - 1, by omega⟩
      rcases hc : cellS q with _ | ⟨c, r'⟩
      · rw [h.ok q rfl, e, decN, hc]; rfl
      · rw [take_some hc] at hr; cases hr

/-! ### The walk -/
def st14 (l : List UInt8) (n : Nat) (x : RS × List Ce × Bool) : St := ⟨[(0, .vec 1 (l.map byteD) .none), (4, .bptr 0 0), (5, .vec 4 (x.2.1.map ceD) (bif x.2.2 then .own 0 else .exact)), (10, .int .u64 (n : Nat)), (11, .int .u64 (x.2.1.length : Nat))], [], bif x.2.2 then [true] else [], [rdD x.1]⟩
theorem ce_app (out : List Ce) (c : Ce) : out.map ceD ++ [.agg [.str c.k, .str c.v, .int .i64 c.g, .int .i64 c.p]] = (out ++ [c]).map ceD := by simp [ceD]

set_option maxRecDepth 20000 in
set_option maxHeartbeats 4000000 in
theorem loop14 (hC : Lib08D C) (l : List UInt8) (tgt : Option (List Ce)) (n : Nat) (hn : n ≤ 504) (s0 : RS) (h0 : Inv8 tgt n s0 []) (st : St) (hst : an14.at_ (some 4) st = st14 l n (s0, [], false)) :
    ∃ x st', loopC T an14 C lp14_0 st = some (x, st') ∧ ∃ ρ L τ s, st' = ⟨ρ, L, τ, [rdD s]⟩ ∧ ((x = .exit 0 ∧ ∃ out b, Inv8 tgt n s out ∧ out.length = n ∧ (b = false → out = []) ∧ get ρ 0 = .vec 1 (l.map byteD) .none ∧ get ρ 4 = .bptr 0 0 ∧ get ρ 5 = .vec 4 (out.map ceD) (bif b then .own 0 else .exact) ∧ τ = bif b then [true] else []) ∨ (x = .ret ∧ tgt = .none ∧ get ρ 2 = .vec 4 [] .exact ∧ get ρ 3 = errD 3)) := by
  refine loop_rule (st14 l n) (fun x => Inv8 tgt n x.1 x.2.1 ∧ (x.2.2 = false → x.2.1 = [])) (fun x => n - x.2.1.length) _ ?_ (s0, [], false) st hst ⟨h0, fun _ => rfl⟩
  rintro ⟨s, out, b⟩ ⟨hI, hb⟩
  simp only at hI hb
  have hle := hI.le
  rcases Nat.lt_or_ge out.length n with h | h
  · have g0 : (out.length : Int) < n := by omega
    have c1 := c44 hC s hI.bd
    have hv := take_short s
    have hS := hI.step h
    have hF := hI.fail h
    rcases hp : takeP s with ⟨s', c⟩
    rw [hp] at c1 hv hS hF
    simp only at c1 hv hS hF
    rw [ceD_eq] at c1
    have c2 := fun B => c21 hC.toLib08A c (by omega) B
    unfold okE at c2
    have w1 : IntKind.u64.wrap ((out.length : Int) + 1) = ((out ++ [c]).length : Nat) := by rw [wrap_u64 (by omega) (by omega)]; simp
    have r1 := roomy48 (n := out.length + 1) (by omega)
    have a1 := ce_app out c
    cases ho : okC c with
    | false =>
      right
      rw [ho, if_neg (by decide), errD_pos (by decide)] at c2
      have ht := hF (.inl ho)
      cases b <;>
      · simp only [st14, cond_true, cond_false]
        simp only [st14, lp14_0, subC, atC, Tryd.f14, an14, g0, c1, c2, sC_nil, sC_zero, sC_succ, T3, T5, T9, T23, T28, T31, T45, T84, T85, EL, e_finWf, e_finWt, e_finMN, e_finMX, retM, meltV, tupV, D.asBox, D.row1, D.freeR, D.freeO, List.replicate_succ, stepD, accs, accP, accW, simpleOp, isAl, isExt, flipD, D.fresh1, D.row, D.plain, D.plain.plainL, St.close, St.close1, St.borrow, retV, resV, resL, outCL, outC, outL, outD, wantedV, opV, An.mid, thawV, St.settle, D.plainU, prune, envOf, get, put, eval, evalT, nz, argsV, capsV, ofV, binV, binV.aggV, unV, intV, eqOp, isConst, natV, optV, loadV, loadC, storeV, St.at_, partV, partTy, indexAddrV, fieldAddrV, sliceV, sliceV.rowSl, sliceV.strSl, bounds, cutP, builtinV, lenV, maxL, maxV, appendV, St.elems, roomy, rowOf, rowS, isStr, esz, tdOf, convV, buildV, fillV, partsV, okParts, fillL, D.whole, D.demoteC, D.demote, demoteL, D.global, D.flat, D.leaf, D.cells, TI.agg, TD.rowish, callOpV, moveL, CC, keepB, St.borrowL, St.borrow, D.isLsl, adoptR, adoptC, adoptCL, adoptL, adopt, List.toArray, Array.toList, Nat.reduceEqDiff, Nat.reduceAdd, Nat.reduceSub, Nat.reduceMul, Nat.reduceLeDiff, Nat.reduceLT, reduceIte, reduceCtorEq, forall_const, imp_self, Int.reduceNeg, Int.reduceLT, Int.reduceLE, Int.reduceGT, Int.reduceGE, Int.reduceAdd, Int.reduceSub, Int.reduceMul, Int.reduceToNat, Int.reduceEq, ne_eq, eq_self]
        exact ⟨_, _, rfl, by simp, _, _, _, _, rfl, .inr ⟨rfl, ht, rfl, rfl⟩⟩
    | true =>
      rw [ho, if_pos rfl, errD_zero] at c2
      rcases Nat.eq_zero_or_pos out.length with hz | hz
      · have g2 : ¬ (out.length : Int) > 0 := by omega
        obtain rfl : out = [] := List.length_eq_zero_iff.1 hz
        left
        refine ⟨(s', [] ++ [c], true), ?_, ⟨hS ho rfl, fun h => by cases h⟩, by simp; omega⟩
        simp only [List.map_nil, List.length_nil, pz0, Nat.zero_add] at g0 g2 r1
        cases b <;>
        · simp only [st14, cond_true, cond_false, List.map_nil, List.length_nil, pz0]
          simp only [st14, lp14_0, subC, atC, Tryd.f14, an14, g0, g2, c1, c2, r1, List.nil_append, sC_nil, sC_zero, sC_succ, T3, T5, T9, T23, T28, T31, T45, T84, T85, EL, e_finWf, e_finWt, e_finMN, e_finMX, retM, meltV, tupV, D.asBox, D.row1, D.freeR, D.freeO, List.replicate_succ, stepD, accs, accP, accW, simpleOp, isAl, isExt, flipD, D.fresh1, D.row, D.plain, D.plain.plainL, St.close, St.close1, St.borrow, retV, resV, resL, outCL, outC, outL, outD, wantedV, opV, An.mid, thawV, St.settle, D.plainU, prune, envOf, get, put, eval, evalT, nz, argsV, capsV, ofV, binV, binV.aggV, unV, intV, eqOp, isConst, natV, optV, loadV, loadC, storeV, St.at_, partV, partTy, indexAddrV, fieldAddrV, sliceV, sliceV.rowSl, sliceV.strSl, bounds, cutP, builtinV, lenV, maxL, maxV, appendV, St.elems, rowOf, rowS, isStr, esz, tdOf, convV, buildV, fillV, partsV, okParts, fillL, D.whole, D.demoteC, D.demote, demoteL, D.global, D.flat, D.leaf, D.cells, TI.agg, TD.rowish, callOpV, moveL, CC, keepB, St.borrowL, St.borrow, D.isLsl, adoptR, adoptC, adoptCL, adoptL, adopt, List.toArray, Array.toList, Nat.reduceEqDiff, Nat.reduceAdd, Nat.reduceSub, Nat.reduceMul, Nat.reduceLeDiff, Nat.reduceLT, reduceIte, reduceCtorEq, forall_const, imp_self, Int.reduceNeg, Int.reduceLT, Int.reduceLE, Int.reduceGT, Int.reduceGE, Int.reduceAdd, Int.reduceSub, Int.reduceMul, Int.reduceToNat, Int.reduceEq, ne_eq, eq_self]
          exact ⟨_, rfl, rfl⟩
      · have g2 : (out.length : Int) > 0 := by omega
        have w2 : IntKind.i64.wrap ((out.length : Int) - 1) = ((out.length - 1 : Nat) : Int) := by rw [wrapI (by omega) (by omega)]; omega
        have g3 := pnat (out.length - 1)
        have e2 := ce_get (l := out) (i := out.length - 1) (by omega)
        have s1 : strV .geq (out.getD (out.length - 1) default).k c.k = some (.bool (!lt (out.getD (out.length - 1) default).k c.k)) := rfl
        have hK := lastK_pos hz
        have hP : ordC (lastK out) c.k = lt (out.getD (out.length - 1) default).k c.k := by rw [hK]; rfl
        have hbt : b = true := by
          cases b with
          | true => rfl
          | false => rw [hb rfl] at hz; simp at hz
        subst hbt
        cases hlt : lt (out.getD (out.length - 1) default).k c.k <;> rw [hlt] at s1 hP
        · right
          have ht := hF (.inr hP)
          simp only [st14, cond_true, cond_false]
          simp only [st14, lp14_0, subC, atC, Tryd.f14, an14, g0, g2, g3, w2, e2, s1, c1, c2, Bool.not_false, Int.toNat_natCast, sC_nil, sC_zero, sC_succ, T3, T5, T9, T23, T28, T31, T45, T84, T85, EL, e_finWf, e_finWt, e_finMN, e_finMX, retM, meltV, tupV, D.asBox, D.row1, D.freeR, D.freeO, List.replicate_succ, stepD, accs, accP, accW, simpleOp, isAl, isExt, flipD, D.fresh1, D.row, D.plain, D.plain.plainL, St.close, St.close1, St.borrow, retV, resV, resL, outCL, outC, outL, outD, wantedV, opV, An.mid, thawV, St.settle, D.plainU, prune, envOf, get, put, eval, evalT, nz, argsV, capsV, ofV, binV, binV.aggV, unV, intV, eqOp, isConst, natV, optV, loadV, loadC, storeV, St.at_, partV, partTy, indexAddrV, fieldAddrV, sliceV, sliceV.rowSl, sliceV.strSl, bounds, cutP, builtinV, lenV, maxL, maxV, appendV, St.elems, roomy, rowOf, rowS, isStr, esz, tdOf, convV, buildV, fillV, partsV, okParts, fillL, D.whole, D.demoteC, D.demote, demoteL, D.global, D.flat, D.leaf, D.cells, TI.agg, TD.rowish, callOpV, moveL, CC, keepB, St.borrowL, St.borrow, D.isLsl, adoptR, adoptC, adoptCL, adoptL, adopt, List.toArray, Array.toList, Nat.reduceEqDiff, Nat.reduceAdd, Nat.reduceSub, Nat.reduceMul, Nat.reduceLeDiff, Nat.reduceLT, reduceIte, reduceCtorEq, forall_const, imp_self, Int.reduceNeg, Int.reduceLT, Int.reduceLE, Int.reduceGT, Int.reduceGE, Int.reduceAdd, Int.reduceSub, Int.reduceMul, Int.reduceToNat, Int.reduceEq, ne_eq, eq_self]
          exact ⟨_, _, rfl, by simp, _, _, _, _, rfl, .inr ⟨rfl, ht, rfl, rfl⟩⟩
        · left
          refine ⟨(s', out ++ [c], true), ?_, ⟨hS ho hP, fun h => by cases h⟩, by simp; omega⟩
          simp only [st14, cond_true, cond_false]
          generalize out ++ [c] = out2 at w1 a1
          simp only [st14, lp14_0, subC, atC, Tryd.f14, an14, g0, g2, g3, w1, w2, a1, r1, e2, s1, c1, c2, Bool.not_true, Int.toNat_natCast, sC_nil, sC_zero, sC_succ, T3, T5, T9, T23, T28, T31, T45, T84, T85, EL, e_finWf, e_finWt, e_finMN, e_finMX, retM, meltV, tupV, D.asBox, D.row1, D.freeR, D.freeO, List.replicate_succ, stepD, accs, accP, accW, simpleOp, isAl, isExt, flipD, D.fresh1, D.row, D.plain, D.plain.plainL, St.close, St.close1, St.borrow, retV, resV, resL, outCL, outC, outL, outD, wantedV, opV, An.mid, thawV, St.settle, D.plainU, prune, envOf, get, put, eval, evalT, nz, argsV, capsV, ofV, binV, binV.aggV, unV, intV, eqOp, isConst, natV, optV, loadV, loadC, storeV, St.at_, partV, partTy, indexAddrV, fieldAddrV, sliceV, sliceV.rowSl, sliceV.strSl, bounds, cutP, builtinV, lenV, maxL, maxV, appendV, St.elems, rowOf, rowS, isStr, esz, tdOf, convV, buildV, fillV, partsV, okParts, fillL, D.whole, D.demoteC, D.demote, demoteL, D.global, D.flat, D.leaf, D.cells, TI.agg, TD.rowish, callOpV, moveL, CC, keepB, St.borrowL, St.borrow, D.isLsl, adoptR, adoptC, adoptCL, adoptL, adopt, List.toArray, Array.toList, Nat.reduceEqDiff, Nat.reduceAdd, Nat.reduceSub, Nat.reduceMul, Nat.reduceLeDiff, Nat.reduceLT, reduceIte, reduceCtorEq, forall_const, imp_self, Int.reduceNeg, Int.reduceLT, Int.reduceLE, Int.reduceGT, Int.reduceGE, Int.reduceAdd, Int.reduceSub, Int.reduceMul, Int.reduceToNat, Int.reduceEq, ne_eq, eq_self]
          exact ⟨_, rfl, rfl⟩
  · right
    have e : out.length = n := by omega
    have g0 : ¬ (out.length : Int) < n := by omega
    cases b
    · simp only [st14, cond_true, cond_false]
      simp only [st14, lp14_0, subC, atC, Tryd.f14, an14, g0, T3, T5, T9, T23, T28, T31, T45, T84, T85, EL, e_finWf, e_finWt, e_finMN, e_finMX, retM, meltV, tupV, D.asBox, D.row1, D.freeR, D.freeO, List.replicate_succ, stepD, accs, accP, accW, simpleOp, isAl, isExt, flipD, D.fresh1, D.row, D.plain, D.plain.plainL, St.close, St.close1, St.borrow, retV, resV, resL, outCL, outC, outL, outD, wantedV, opV, An.mid, thawV, St.settle, D.plainU, prune, envOf, get, put, eval, evalT, nz, argsV, capsV, ofV, binV, binV.aggV, unV, intV, eqOp, isConst, natV, optV, loadV, loadC, storeV, setC, St.at_, partV, partTy, indexAddrV, fieldAddrV, sliceV, sliceV.rowSl, sliceV.strSl, bounds, cutP, builtinV, lenV, maxL, maxV, appendV, St.elems, roomy, rowOf, rowS, isStr, esz, tdOf, convV, buildV, fillV, partsV, okParts, fillL, D.whole, D.demoteC, D.demote, demoteL, D.global, D.flat, D.leaf, D.cells, TI.agg, TD.rowish, callOpV, moveL, CC, keepB, St.borrowL, St.borrow, D.isLsl, adoptR, adoptC, adoptCL, adoptL, adopt, List.toArray, Array.toList, Nat.reduceEqDiff, Nat.reduceAdd, Nat.reduceSub, Nat.reduceMul, Nat.reduceLeDiff, Nat.reduceLT, reduceIte, reduceCtorEq, forall_const, imp_self, Int.reduceNeg, Int.reduceLT, Int.reduceLE, Int.reduceGT, Int.reduceGE, Int.reduceAdd, Int.reduceSub, Int.reduceMul, Int.reduceToNat, Int.reduceEq, ne_eq, eq_self]
      exact ⟨_, _, rfl, by simp, _, _, _, _, rfl, .inl ⟨rfl, out, false, hI, e, hb, rfl, rfl, rfl, rfl⟩⟩
    · simp only [st14, cond_true, cond_false]
      simp only [st14, lp14_0, subC, atC, Tryd.f14, an14, g0, T3, T5, T9, T23, T28, T31, T45, T84, T85, EL, e_finWf, e_finWt, e_finMN, e_finMX, retM, meltV, tupV, D.asBox, D.row1, D.freeR, D.freeO, List.replicate_succ, stepD, accs, accP, accW, simpleOp, isAl, isExt, flipD, D.fresh1, D.row, D.plain, D.plain.plainL, St.close, St.close1, St.borrow, retV, resV, resL, outCL, outC, outL, outD, wantedV, opV, An.mid, thawV, St.settle, D.plainU, prune, envOf, get, put, eval, evalT, nz, argsV, capsV, ofV, binV, binV.aggV, unV, intV, eqOp, isConst, natV, optV, loadV, loadC, storeV, setC, St.at_, partV, partTy, indexAddrV, fieldAddrV, sliceV, sliceV.rowSl, sliceV.strSl, bounds, cutP, builtinV, lenV, maxL, maxV, appendV, St.elems, roomy, rowOf, rowS, isStr, esz, tdOf, convV, buildV, fillV, partsV, okParts, fillL, D.whole, D.demoteC, D.demote, demoteL, D.global, D.flat, D.leaf, D.cells, TI.agg, TD.rowish, callOpV, moveL, CC, keepB, St.borrowL, St.borrow, D.isLsl, adoptR, adoptC, adoptCL, adoptL, adopt, List.toArray, Array.toList, Nat.reduceEqDiff, Nat.reduceAdd, Nat.reduceSub, Nat.reduceMul, Nat.reduceLeDiff, Nat.reduceLT, reduceIte, reduceCtorEq, forall_const, imp_self, Int.reduceNeg, Int.reduceLT, Int.reduceLE, Int.reduceGT, Int.reduceGE, Int.reduceAdd, Int.reduceSub, Int.reduceMul, Int.reduceToNat, Int.reduceEq, ne_eq, eq_self]
      exact ⟨_, _, rfl, by simp, _, _, _, _, rfl, .inl ⟨rfl, out, true, hI, e, hb, rfl, rfl, rfl, rfl⟩⟩

theorem under_ce (out : List Ce) (n : Nat) : D.under.underL n (out.map ceD) = true := mapL_under (fun _ => rfl) out

/-- What a load's cells are told as. -/
def fkC : Option (List Ce) → D
  | some x => ceR x .fresh
  | .none => .vec 4 [] .fresh
def fkG : Option (List Ce) → Nat
  | some _ => 0
  | .none => 3

set_option maxRecDepth 20000 in
set_option maxHeartbeats 4000000 in
theorem run14 (hC : Lib08D C) (l : List UInt8) (hl : l.length ≤ 1000) : runV T C fi14 [.vec 1 (l.map byteD) .none] [] = some (.tuple [fkC (decC l), errD (fkG (decC l))], []) := by
  rw [e_run _ _ _ rfl]
  have c1 := c42 hC.toLibPack l (by omega)
  have c2 := c43 hC.toLibPack (some l) 504 (fun q e => by injection e with e; subst e; omega)
  have hn := (numP_bnd (some l) 504).1
  have hI := Inv8.start (l := l) (by omega)
  have e1 : numP (some l) 504 = numS l 504 := rfl
  rw [e1] at c2 hn
  have lp := loop14 hC l (decX l) (numS l 504).2 hn (numS l 504).1 hI
  rw [decC_eq]
  generalize (numS l 504).2 = n at c2 lp
  generalize (numS l 504).1 = s0 at c2 lp
  generalize decX l = tgt at lp
  have m1 : ((504 : Nat) : Int) = 504 := rfl
  rw [m1] at c2
  simp only [fi14, Tryd.f14, an14, c1, c2, sC_nil, sC_zero, sC_succ, T3, T5, T9, T23, T28, T31, T45, T84, T85, EL, e_finWf, e_finWt, e_finMN, e_finMX, retM, meltV, tupV, D.asBox, D.row1, D.freeR, D.freeO, List.replicate_succ, stepD, accs, accP, accW, simpleOp, isAl, isExt, flipD, D.fresh1, D.row, D.plain, D.plain.plainL, St.close, St.close1, St.borrow, retV, resV, resL, outCL, outC, outL, outD, wantedV, opV, An.mid, thawV, St.settle, D.plainU, prune, envOf, get, put, eval, evalT, nz, argsV, capsV, ofV, binV, binV.aggV, unV, intV, eqOp, isConst, natV, optV, loadV, loadC, storeV, St.at_, partV, partTy, indexAddrV, fieldAddrV, sliceV, sliceV.rowSl, sliceV.strSl, bounds, cutP, builtinV, lenV, maxL, maxV, appendV, St.elems, roomy, rowOf, rowS, isStr, esz, tdOf, convV, buildV, fillV, partsV, okParts, fillL, D.whole, D.demoteC, D.demote, demoteL, D.global, D.flat, D.leaf, D.cells, TI.agg, TD.rowish, callOpV, moveL, CC, keepB, St.borrowL, St.borrow, D.isLsl, adoptR, adoptC, adoptCL, adoptL, adopt, List.toArray, Array.toList, Nat.reduceEqDiff, Nat.reduceAdd, Nat.reduceSub, Nat.reduceMul, Nat.reduceLeDiff, Nat.reduceLT, reduceIte, reduceCtorEq, forall_const, imp_self, Int.reduceNeg, Int.reduceLT, Int.reduceLE, Int.reduceGT, Int.reduceGE, Int.reduceAdd, Int.reduceSub, Int.reduceMul, Int.reduceToNat, Int.reduceEq, ne_eq, eq_self]
  refine' in_loop (c' := lp14_0) (fin T _ _ _) ?h rfl ?q
  case h =>
    refine lp _ ?_
    simp only [an14, ren_map, toks_map, boxes_map, st14, pz0, An.at_, tidyV, tidyW, tidyB, tidyT, sift, envBoxes, envToks, conToks, D.toks, D.tok1, toksL, D.boxes, D.box1, boxesL, memN, posN, renE, D.ren, D.ren1, renL, renB, St.content, St.boxOk, St.tokOk, trues, T3, T5, T9, T23, T28, T31, T45, T84, T85, EL, e_finWf, e_finWt, e_finMN, e_finMX, retM, meltV, tupV, D.asBox, D.row1, D.freeR, D.freeO, List.replicate_succ, stepD, accs, accP, accW, simpleOp, isAl, isExt, flipD, D.fresh1, D.row, D.plain, D.plain.plainL, St.close, St.close1, St.borrow, retV, resV, resL, outCL, outC, outL, outD, wantedV, opV, An.mid, thawV, St.settle, D.plainU, prune, envOf, get, put, eval, evalT, nz, argsV, capsV, ofV, binV, binV.aggV, unV, intV, eqOp, isConst, natV, optV, loadV, loadC, storeV, setC, St.at_, partV, partTy, indexAddrV, fieldAddrV, sliceV, sliceV.rowSl, sliceV.strSl, bounds, cutP, builtinV, lenV, maxL, maxV, appendV, St.elems, roomy, rowOf, rowS, isStr, esz, tdOf, convV, buildV, fillV, partsV, okParts, fillL, D.whole, D.demoteC, D.demote, demoteL, D.global, D.flat, D.leaf, D.cells, TI.agg, TD.rowish, callOpV, moveL, CC, keepB, St.borrowL, St.borrow, D.isLsl, adoptR, adoptC, adoptCL, adoptL, adopt, List.toArray, Array.toList, Nat.reduceEqDiff, Nat.reduceAdd, Nat.reduceSub, Nat.reduceMul, Nat.reduceLeDiff, Nat.reduceLT, reduceIte, reduceCtorEq, forall_const, imp_self, Int.reduceNeg, Int.reduceLT, Int.reduceLE, Int.reduceGT, Int.reduceGE, Int.reduceAdd, Int.reduceSub, Int.reduceMul, Int.reduceToNat, Int.reduceEq, ne_eq, eq_self]
    all_goals rfl
  rintro x st' ⟨ρ, L, τ, s, rfl, ⟨rfl, out, b, hI, ho, hb, r0, r4, r5, rfl⟩ | ⟨rfl, ht, r2, r3⟩⟩
  · clear lp
    have d1 := c45 hC.toLibPack s
    have hz : n - out.length = 0 := by omega
    rcases s with _ | _ | ⟨c, q⟩
    · have e1 : doneE .none = 3 := rfl
      rw [e1, errD_pos (by decide)] at d1
      have ht : (if 504 < l.length then .none else tgt) = .none := by rw [hI.bad rfl]; split <;> rfl
      rw [ht]
      simp only [fkC, fkG, r4, r0, d1, T3, T5, T9, T23, T28, T31, T45, T84, T85, EL, e_finWf, e_finWt, e_finMN, e_finMX, retM, meltV, tupV, D.asBox, D.row1, D.freeR, D.freeO, List.replicate_succ, stepD, accs, accP, accW, simpleOp, isAl, isExt, flipD, D.fresh1, D.row, D.plain, D.plain.plainL, St.close, St.close1, St.borrow, retV, resV, resL, outCL, outC, outL, outD, wantedV, opV, An.mid, thawV, St.settle, D.plainU, prune, envOf, get, put, eval, evalT, nz, argsV, capsV, ofV, binV, binV.aggV, unV, intV, eqOp, isConst, natV, optV, loadV, loadC, storeV, setC, St.at_, partV, partTy, indexAddrV, fieldAddrV, sliceV, sliceV.rowSl, sliceV.strSl, bounds, cutP, builtinV, lenV, maxL, maxV, appendV, St.elems, roomy, rowOf, rowS, isStr, esz, tdOf, convV, buildV, fillV, partsV, okParts, fillL, D.whole, D.demoteC, D.demote, demoteL, D.global, D.flat, D.leaf, D.cells, TI.agg, TD.rowish, callOpV, moveL, CC, keepB, St.borrowL, St.borrow, D.isLsl, adoptR, adoptC, adoptCL, adoptL, adopt, List.toArray, Array.toList, Nat.reduceEqDiff, Nat.reduceAdd, Nat.reduceSub, Nat.reduceMul, Nat.reduceLeDiff, Nat.reduceLT, reduceIte, reduceCtorEq, forall_const, imp_self, Int.reduceNeg, Int.reduceLT, Int.reduceLE, Int.reduceGT, Int.reduceGE, Int.reduceAdd, Int.reduceSub, Int.reduceMul, Int.reduceToNat, Int.reduceEq, ne_eq, eq_self]
      exact end_t0 rfl
    · have e1 : doneE (some []) = 0 := rfl
      rw [e1, errD_zero] at d1
      have ht := hI.ok [] rfl
      rw [hz, decN, if_pos rfl, Option.map_some, List.append_nil] at ht
      by_cases hl5 : 504 < l.length
      · have g1 : (l.length : Int) > 504 := by omega
        rw [if_pos hl5]
        simp only [fkC, fkG, r4, r0, d1, g1, T3, T5, T9, T23, T28, T31, T45, T84, T85, EL, e_finWf, e_finWt, e_finMN, e_finMX, retM, meltV, tupV, D.asBox, D.row1, D.freeR, D.freeO, List.replicate_succ, stepD, accs, accP, accW, simpleOp, isAl, isExt, flipD, D.fresh1, D.row, D.plain, D.plain.plainL, St.close, St.close1, St.borrow, retV, resV, resL, outCL, outC, outL, outD, wantedV, opV, An.mid, thawV, St.settle, D.plainU, prune, envOf, get, put, eval, evalT, nz, argsV, capsV, ofV, binV, binV.aggV, unV, intV, eqOp, isConst, natV, optV, loadV, loadC, storeV, setC, St.at_, partV, partTy, indexAddrV, fieldAddrV, sliceV, sliceV.rowSl, sliceV.strSl, bounds, cutP, builtinV, lenV, maxL, maxV, appendV, St.elems, roomy, rowOf, rowS, isStr, esz, tdOf, convV, buildV, fillV, partsV, okParts, fillL, D.whole, D.demoteC, D.demote, demoteL, D.global, D.flat, D.leaf, D.cells, TI.agg, TD.rowish, callOpV, moveL, CC, keepB, St.borrowL, St.borrow, D.isLsl, adoptR, adoptC, adoptCL, adoptL, adopt, List.toArray, Array.toList, Nat.reduceEqDiff, Nat.reduceAdd, Nat.reduceSub, Nat.reduceMul, Nat.reduceLeDiff, Nat.reduceLT, reduceIte, reduceCtorEq, forall_const, imp_self, Int.reduceNeg, Int.reduceLT, Int.reduceLE, Int.reduceGT, Int.reduceGE, Int.reduceAdd, Int.reduceSub, Int.reduceMul, Int.reduceToNat, Int.reduceEq, ne_eq, eq_self]
        exact end_t0 rfl
      · have g1 : ¬ (l.length : Int) > 504 := by omega
        rw [if_neg hl5, ht]
        cases b with
        | false =>
          obtain rfl := hb rfl
          simp only [fkC, fkG, r4, r0, r5, d1, g1, cond_false, List.map_nil, T3, T5, T9, T23, T28, T31, T45, T84, T85, EL, e_finWf, e_finWt, e_finMN, e_finMX, retM, meltV, tupV, D.asBox, D.row1, D.freeR, D.freeO, List.replicate_succ, stepD, accs, accP, accW, simpleOp, isAl, isExt, flipD, D.fresh1, D.row, D.plain, D.plain.plainL, St.close, St.close1, St.borrow, retV, resV, resL, outCL, outC, outL, outD, wantedV, opV, An.mid, thawV, St.settle, D.plainU, prune, envOf, get, put, eval, evalT, nz, argsV, capsV, ofV, binV, binV.aggV, unV, intV, eqOp, isConst, natV, optV, loadV, loadC, storeV, setC, St.at_, partV, partTy, indexAddrV, fieldAddrV, sliceV, sliceV.rowSl, sliceV.strSl, bounds, cutP, builtinV, lenV, maxL, maxV, appendV, St.elems, roomy, rowOf, rowS, isStr, esz, tdOf, convV, buildV, fillV, partsV, okParts, fillL, D.whole, D.demoteC, D.demote, demoteL, D.global, D.flat, D.leaf, D.cells, TI.agg, TD.rowish, callOpV, moveL, CC, keepB, St.borrowL, St.borrow, D.isLsl, adoptR, adoptC, adoptCL, adoptL, adopt, List.toArray, Array.toList, Nat.reduceEqDiff, Nat.reduceAdd, Nat.reduceSub, Nat.reduceMul, Nat.reduceLeDiff, Nat.reduceLT, reduceIte, reduceCtorEq, forall_const, imp_self, Int.reduceNeg, Int.reduceLT, Int.reduceLE, Int.reduceGT, Int.reduceGE, Int.reduceAdd, Int.reduceSub, Int.reduceMul, Int.reduceToNat, Int.reduceEq, ne_eq, eq_self]
          exact end_t0 rfl
        | true =>
          simp only [fkC, fkG, r4, r0, r5, d1, g1, cond_true, T3, T5, T9, T23, T28, T31, T45, T84, T85, EL, e_finWf, e_finWt, e_finMN, e_finMX, retM, meltV, tupV, D.asBox, D.row1, D.freeR, D.freeO, List.replicate_succ, stepD, accs, accP, accW, simpleOp, isAl, isExt, flipD, D.fresh1, D.row, D.plain, D.plain.plainL, St.close, St.close1, St.borrow, retV, resV, resL, outCL, outC, outL, outD, wantedV, opV, An.mid, thawV, St.settle, D.plainU, prune, envOf, get, put, eval, evalT, nz, argsV, capsV, ofV, binV, binV.aggV, unV, intV, eqOp, isConst, natV, optV, loadV, loadC, storeV, setC, St.at_, partV, partTy, indexAddrV, fieldAddrV, sliceV, sliceV.rowSl, sliceV.strSl, bounds, cutP, builtinV, lenV, maxL, maxV, appendV, St.elems, roomy, rowOf, rowS, isStr, esz, tdOf, convV, buildV, fillV, partsV, okParts, fillL, D.whole, D.demoteC, D.demote, demoteL, D.global, D.flat, D.leaf, D.cells, TI.agg, TD.rowish, callOpV, moveL, CC, keepB, St.borrowL, St.borrow, D.isLsl, adoptR, adoptC, adoptCL, adoptL, adopt, List.toArray, Array.toList, Nat.reduceEqDiff, Nat.reduceAdd, Nat.reduceSub, Nat.reduceMul, Nat.reduceLeDiff, Nat.reduceLT, reduceIte, reduceCtorEq, forall_const, imp_self, Int.reduceNeg, Int.reduceLT, Int.reduceLE, Int.reduceGT, Int.reduceGE, Int.reduceAdd, Int.reduceSub, Int.reduceMul, Int.reduceToNat, Int.reduceEq, ne_eq, eq_self]
          exact end_t0 (by simp only [ceR, D.under, D.under.underL, under_ce, Bool.and_self])
    · have e1 : doneE (some (c :: q)) = 3 := rfl
      rw [e1, errD_pos (by decide)] at d1
      have ht := hI.ok (c :: q) rfl
      rw [hz, decN, if_neg (by simp), Option.map_none] at ht
      have ht : (if 504 < l.length then .none else tgt) = .none := by rw [ht]; split <;> rfl
      rw [ht]
      simp only [fkC, fkG, r4, r0, d1, T3, T5, T9, T23, T28, T31, T45, T84, T85, EL, e_finWf, e_finWt, e_finMN, e_finMX, retM, meltV, tupV, D.asBox, D.row1, D.freeR, D.freeO, List.replicate_succ, stepD, accs, accP, accW, simpleOp, isAl, isExt, flipD, D.fresh1, D.row, D.plain, D.plain.plainL, St.close, St.close1, St.borrow, retV, resV, resL, outCL, outC, outL, outD, wantedV, opV, An.mid, thawV, St.settle, D.plainU, prune, envOf, get, put, eval, evalT, nz, argsV, capsV, ofV, binV, binV.aggV, unV, intV, eqOp, isConst, natV, optV, loadV, loadC, storeV, setC, St.at_, partV, partTy, indexAddrV, fieldAddrV, sliceV, sliceV.rowSl, sliceV.strSl, bounds, cutP, builtinV, lenV, maxL, maxV, appendV, St.elems, roomy, rowOf, rowS, isStr, esz, tdOf, convV, buildV, fillV, partsV, okParts, fillL, D.whole, D.demoteC, D.demote, demoteL, D.global, D.flat, D.leaf, D.cells, TI.agg, TD.rowish, callOpV, moveL, CC, keepB, St.borrowL, St.borrow, D.isLsl, adoptR, adoptC, adoptCL, adoptL, adopt, List.toArray, Array.toList, Nat.reduceEqDiff, Nat.reduceAdd, Nat.reduceSub, Nat.reduceMul, Nat.reduceLeDiff, Nat.reduceLT, reduceIte, reduceCtorEq, forall_const, imp_self, Int.reduceNeg, Int.reduceLT, Int.reduceLE, Int.reduceGT, Int.reduceGE, Int.reduceAdd, Int.reduceSub, Int.reduceMul, Int.reduceToNat, Int.reduceEq, ne_eq, eq_self]
      exact end_t0 rfl
  · have : (if 504 < l.length then none else tgt) = none := by rw [ht]; split <;> rfl
    rw [this]
    rw [errD_pos (by decide)] at r3
    simp only [r2, r3, fkC, fkG, T3, T5, T9, T23, T28, T31, T45, T84, T85, EL, e_finWf, e_finWt, e_finMN, e_finMX, retM, meltV, tupV, D.asBox, D.row1, D.freeR, D.freeO, List.replicate_succ, stepD, accs, accP, accW, simpleOp, isAl, isExt, flipD, D.fresh1, D.row, D.plain, D.plain.plainL, St.close, St.close1, St.borrow, retV, resV, resL, outCL, outC, outL, outD, wantedV, opV, An.mid, thawV, St.settle, D.plainU, prune, envOf, get, put, eval, evalT, nz, argsV, capsV, ofV, binV, binV.aggV, unV, intV, eqOp, isConst, natV, optV, loadV, loadC, storeV, setC, St.at_, partV, partTy, indexAddrV, fieldAddrV, sliceV, sliceV.rowSl, sliceV.strSl, bounds, cutP, builtinV, lenV, maxL, maxV, appendV, St.elems, roomy, rowOf, rowS, isStr, esz, tdOf, convV, buildV, fillV, partsV, okParts, fillL, D.whole, D.demoteC, D.demote, demoteL, D.global, D.flat, D.leaf, D.cells, TI.agg, TD.rowish, callOpV, moveL, CC, keepB, St.borrowL, St.borrow, D.isLsl, adoptR, adoptC, adoptCL, adoptL, adopt, List.toArray, Array.toList, Nat.reduceEqDiff, Nat.reduceAdd, Nat.reduceSub, Nat.reduceMul, Nat.reduceLeDiff, Nat.reduceLT, reduceIte, reduceCtorEq, forall_const, imp_self, Int.reduceNeg, Int.reduceLT, Int.reduceLE, Int.reduceGT, Int.reduceGE, Int.reduceAdd, Int.reduceSub, Int.reduceMul, Int.reduceToNat, Int.reduceEq, ne_eq, eq_self]
    exact end_t0 rfl
theorem c14 (hC : Lib08D C) (l : List UInt8) (hl : l.length ≤ 1000) : C 14 [.vec 1 (l.map byteD) .none] [] = some (.tuple [fkC (decC l), errD (fkG (decC l))], []) := hC.f14 _ _ _ (run14 hC l hl)

end Go.Proofs.YtfkhijjabkhmmaaDoor.V
