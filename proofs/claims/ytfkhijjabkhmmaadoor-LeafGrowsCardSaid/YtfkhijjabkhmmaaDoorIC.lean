/-
Layer 1, for other layers: numbers as bytes.
-/
import Derived.Test.YtfkhijjabkhmmaaDoorIA
namespace Go.Proofs.YtfkhijjabkhmmaaDoor.V
open Go Go.RowKit
set_option linter.unusedSimpArgs false
set_option linter.unusedVariables false

/-! warren/ints.Put -/
def an67 : An := ⟨fun | 5 => some [1, 7, 8] | _ => .none, fun _ => 0, fun _ => false, fun _ => .none⟩
noncomputable def fi67 : FI := ⟨3, 34, Tryd.f67.body.getD .skip, Tryd.f67.results.toList, an67, false, false, false⟩
theorem ok67 : FnOk Tryd.prog 67 fi67 := ⟨⟨Tryd.f67, Tryd.func67, by kernel_rfl, rfl, rfl, rfl⟩, by decide, by kernel_rfl, fun h => by cases h⟩
noncomputable def lp67_0 : Code := subC [1, 1, 1, 0, 1, 0, 0] (Tryd.f67.body.getD .skip)   -- head 5 keep [1, 7, 8]
structure LibIntC (C : Callees) : Prop where
  f67 : Has T C 67 fi67
  clone : ∀ (l : List UInt8) (B : Hp), l.length ≤ 1000000 → C 68 [.vec 1 (l.map byteD) .none] B = some (.vec 1 (l.map byteD) .fresh, B)

/-- The number that bytes are. -/
def beN (v : Nat) (l : List UInt8) : Nat := l.foldl (fun v c => v * 256 + c.toNat) v

theorem beN_lt : ∀ (l : List UInt8) (v n : Nat), v < 256 ^ n → beN v l < 256 ^ (n + l.length)
  | [], v, n, h => h
  | c :: r, v, n, h => by
    have hc := c.toNat_lt
    have := beN_lt r (v * 256 + c.toNat) (n + 1) (by rw [Nat.pow_succ]; omega)
    rw [show n + (c :: r).length = n + 1 + r.length by simp; omega]
    exact this

theorem beN_app (v : Nat) (a b : List UInt8) : beN v (a ++ b) = beN (beN v a) b := List.foldl_append

theorem beN_take {l : List UInt8} {k : Nat} {c : UInt8} (h : l[k]? = some c) : beN 0 (l.take (k + 1)) = beN 0 (l.take k) * 256 + c.toNat := by
  rw [List.take_add_one, h, beN_app]; rfl

theorem beN_part {l : List UInt8} {k : Nat} (hl : l.length ≤ 8) : beN 0 (l.take k) < 18446744073709551616 := by
  have h1 := beN_lt (l.take k) 0 0 (by decide)
  have h2 : 256 ^ (0 + (l.take k).length) ≤ 256 ^ 8 := Nat.pow_le_pow_right (by decide) (by simp; omega)
  exact Nat.lt_of_lt_of_le h1 h2

set_option maxRecDepth 4000 in
theorem shl_or {v c : Nat} (hv : v * 256 + c < 18446744073709551616) (hc : c < 256) : bitsV .or .u64 (shlV .u64 (v : Int) 8) (c : Int) = ((v * 256 + c : Nat) : Int) := by
  have h2 : v * 256 < 18446744073709551616 := by omega
  have h3 : v * 256 + c = v * 256 ||| c := by
    rw [show v * 256 = v <<< 8 by rw [Nat.shiftLeft_eq], ← Nat.shiftLeft_add_eq_or_of_lt (by omega)]
  have h1 : shlV .u64 (v : Int) 8 = ((v * 256 : Nat) : Int) := by
    have : shlV .u64 (v : Int) 8 = IntKind.u64.wrap ((v : Int) * 256) := rfl
    rw [this, wrap_u64 (by omega) (by omega)]; rw [Int.natCast_mul]; rfl
  rw [h1, h3]
  generalize v * 256 = w at h2
  exact u64_or w c h2 (by omega)

/-- The number of bytes, and the error. -/
def getS (l : List UInt8) : Nat × Nat := if l.length = 0 ∨ 8 < l.length then (0, 1) else (beN 0 l, 0)

/-! ### Get -/
/-! ### Put -/
/-- A number's byte at a place, from its end on. -/
def byteAt (v i : Nat) : UInt8 := UInt8.ofNat (v / 256 ^ i)
/-- Its lowest bytes, the highest of them first. -/
def bes (v : Nat) : Nat → List UInt8
  | 0 => []
  | n + 1 => byteAt v n :: bes v n
def putS (l : List UInt8) (v : Nat) (n : Int) : List UInt8 := if n < 1 ∨ n > 64 then l else l ++ bes v n.toNat

theorem bes_length (v : Nat) : ∀ n, (bes v n).length = n
  | 0 => rfl
  | n + 1 => by simp [bes, bes_length v n]

theorem app_push {xs : List UInt8} {i : Nat} {τ : List Bool} (c : UInt8) (h : τ[i]? = some true) (hl : xs.length + 1 ≤ 1000000) (ρ : Env) (M) (B : Hp) :
    appendV 1 1 ⟨ρ, M, τ, B⟩ (.vec 1 (xs.map byteD) (.own i)) [.int .u8 (c.toNat : Int)] = some (.vec 1 ((xs ++ [c]).map byteD) (.own τ.length), ⟨ρ, M, τ.set i false ++ [true], B⟩) := app_own (ys := [c]) h hl ρ M B

theorem app_first {ys : List UInt8} (hl : ys.length ≤ 1000000) (ρ : Env) (M) (τ : List Bool) (B : Hp) :
    appendV 1 1 ⟨ρ, M, τ, B⟩ (.vec 1 [] .exact) (ys.map byteD) = some (.vec 1 (ys.map byteD) (.own τ.length), ⟨ρ, M, τ ++ [true], B⟩) := by
  have hr : roomy ys.length 1 = true := by
    simp only [roomy, nble, decide_eq_true_eq]; omega
  simp [appendV, hr]

theorem u8_of (n : Nat) : IntKind.u8.wrap (n : Int) = (((UInt8.ofNat n).toNat : Nat) : Int) := by
  rw [wrap_u8_mod, UInt8.toNat_ofNat']; omega

theorem byte_none {v j : Nat} (hv : v < 18446744073709551616) (h : 8 ≤ j) : v / 256 ^ j = 0 := by
  have : 256 ^ 8 ≤ 256 ^ j := Nat.pow_le_pow_right (by decide) h
  exact Nat.div_eq_of_lt (Nat.lt_of_lt_of_le hv this)

theorem shr_byte {v : Nat} (hv : v < 18446744073709551616) (j : Nat) : IntKind.u8.wrap (shrV .u64 (v : Int) ((8 * j : Nat) : Int)) = ((byteAt v j).toNat : Int) := by
  unfold byteAt
  rcases Nat.lt_or_ge j 8 with h | h
  · rw [shr_nat .u64 v (8 * j) (by show _ ≤ 64; omega), u8_of, show 2 ^ (8 * j) = 256 ^ j by rw [Nat.pow_mul]]
  · have e1 : min (((8 * j : Nat) : Int)).toNat IntKind.u64.bits = 64 := by show min _ 64 = _; omega
    have h3 : shrV .u64 (v : Int) ((8 * j : Nat) : Int) = ((v / 2 ^ 64 : Nat) : Int) := by
      rw [← shr_nat .u64 v 64 (by show _ ≤ 64; omega), shrV, shrV, e1]; rfl
    rw [h3, byte_none hv h, show v / 2 ^ 64 = 0 from Nat.div_eq_of_lt hv]
    rfl

def st67 (B : Hp) (v : Nat) (l : List UInt8) (n : Nat) (j : Nat) : St := ⟨[(1, .int .u64 v), (7, .vec 1 ((l ++ (bes v n).take (n - j)).map byteD) (.own 0)), (8, .int .i64 ((j : Int) - 1))], [], [true], B⟩

theorem bes_take (v : Nat) : ∀ (n j : Nat), j < n → (bes v n).take (n - j) = (bes v n).take (n - (j + 1)) ++ [byteAt v j]
  | n + 1, j, h => by
    rcases (by omega : j = n ∨ j < n) with rfl | h2
    · rw [show j + 1 - j = 1 by omega, show j + 1 - (j + 1) = 0 by omega]; rfl
    · have ih := bes_take v n j h2
      rw [show n + 1 - j = (n - j) + 1 by omega, show n + 1 - (j + 1) = (n - (j + 1)) + 1 by omega]
      simp only [bes, List.take_succ_cons, ih, List.cons_append]

set_option maxRecDepth 10000 in
theorem loop67 (C : Callees) (B : Hp) (v : Nat) (hv : v < 18446744073709551616) (l : List UInt8) (hl : l.length ≤ 900000) (n : Nat) (hn : n ≤ 64) (st : St) (hst : an67.at_ (some 5) st = st67 B v l n n) :
    ∃ x st', loopC T an67 C lp67_0 st = some (x, st') ∧ ∃ ρ, st' = ⟨ρ, [], [true], B⟩ ∧ x = .exit 0 ∧ get ρ 7 = .vec 1 ((l ++ bes v n).map byteD) (.own 0) := by
  refine loop_rule (st67 B v l n) (fun j => j ≤ n) (fun j => j) (fun x st' => ∃ ρ, st' = ⟨ρ, [], [true], B⟩ ∧ x = .exit 0 ∧ get ρ 7 = .vec 1 ((l ++ bes v n).map byteD) (.own 0)) ?_ n st hst (Nat.le_refl _)
  intro j hj
  rcases Nat.eq_zero_or_pos j with rfl | h
  · right
    have g1 : ¬ ((0 : Nat) : Int) - 1 ≥ 0 := by omega
    have h1 : (bes v n).take n = bes v n := List.take_of_length_le (by rw [bes_length]; omega)
    simp only [st67, lp67_0, subC, atC, Tryd.f67, an67, g1, h1, T3, T5, T23, T84, T132, EL, e_finWf, e_finWt, e_finMN, e_finMX, retM, meltV, tupV, D.asBox, D.row1, D.freeR, D.freeO, List.replicate_succ, stepD, accs, accP, accW, simpleOp, isAl, isExt, flipD, D.fresh1, D.row, D.plain, D.plain.plainL, St.close, St.close1, St.borrow, retV, resV, resL, outCL, outC, outL, outD, wantedV, opV, An.mid, thawV, St.settle, D.plainU, prune, envOf, get, put, eval, evalT, nz, argsV, capsV, ofV, binV, binV.aggV, unV, intV, eqOp, isConst, natV, optV, loadV, loadC, storeV, setC, St.at_, partV, partTy, indexAddrV, fieldAddrV, sliceV, sliceV.rowSl, sliceV.strSl, bounds, cutP, builtinV, lenV, maxL, maxV, appendV, St.elems, roomy, rowOf, rowS, isStr, esz, tdOf, convV, buildV, fillV, partsV, okParts, fillL, D.whole, D.demoteC, D.demote, demoteL, D.global, D.flat, D.leaf, D.cells, TI.agg, TD.rowish, callOpV, moveL, CC, keepB, St.borrowL, St.borrow, D.isLsl, adoptR, adoptC, adoptCL, adoptL, adopt, List.toArray, Array.toList, Nat.reduceEqDiff, Nat.reduceAdd, Nat.reduceSub, Nat.reduceMul, Nat.reduceLeDiff, Nat.reduceLT, reduceIte, reduceCtorEq, forall_const, imp_self, Int.reduceNeg, Int.reduceLT, Int.reduceLE, Int.reduceGT, Int.reduceGE, Int.reduceAdd, Int.reduceSub, Int.reduceMul, Int.reduceToNat, Int.reduceEq, ne_eq, eq_self]
    exact ⟨_, _, rfl, by simp, _, rfl, rfl, rfl⟩
  · left
    obtain ⟨k, rfl⟩ : ∃ k, j = k + 1 := ⟨j - 1, by omega⟩
    have g0 : ((k + 1 : Nat) : Int) - 1 = (k : Int) := by omega
    have g1 : (k : Int) ≥ 0 := by omega
    have g2 : IntKind.u64.wrap (k : Int) = k := wrap_u64 (by omega) (by omega)
    have g3 : IntKind.u64.wrap (8 * (k : Int)) = ((8 * k : Nat) : Int) := by rw [wrap_u64 (by omega) (by omega)]; omega
    have g4 : ¬ ((8 * k : Nat) : Int) < 0 := by omega
    have g5 := shr_byte hv k
    have g6 : IntKind.i64.wrap ((k : Int) - 1) = (k : Int) - 1 := wrapI (by omega) (by omega)
    have ht := bes_take v n k (by omega)
    have hlen : ((bes v n).take (n - (k + 1))).length ≤ 64 := by simp; omega
    have g7 := fun ρ M B => app_push (xs := l ++ (bes v n).take (n - (k + 1))) (i := 0) (τ := [true]) (byteAt v k) rfl (by simp only [List.length_append]; omega) ρ M B
    rw [List.append_assoc, ← ht] at g7
    refine ⟨k, ?_, by omega, by omega⟩
    simp only [st67, lp67_0, subC, atC, Tryd.f67, an67, g0, g1, g2, g3, g4, g5, g6, g7, T3, T5, T23, T84, T132, EL, e_finWf, e_finWt, e_finMN, e_finMX, retM, meltV, tupV, D.asBox, D.row1, D.freeR, D.freeO, List.replicate_succ, stepD, accs, accP, accW, simpleOp, isAl, isExt, flipD, D.fresh1, D.row, D.plain, D.plain.plainL, St.close, St.close1, St.borrow, retV, resV, resL, outCL, outC, outL, outD, wantedV, opV, An.mid, thawV, St.settle, D.plainU, prune, envOf, get, put, eval, evalT, nz, argsV, capsV, ofV, binV, binV.aggV, unV, intV, eqOp, isConst, natV, optV, loadV, loadC, storeV, setC, St.at_, partV, partTy, indexAddrV, fieldAddrV, sliceV, sliceV.rowSl, sliceV.strSl, bounds, cutP, builtinV, lenV, maxL, maxV, St.elems, roomy, rowOf, rowS, isStr, esz, tdOf, convV, buildV, fillV, partsV, okParts, fillL, D.whole, D.demoteC, D.demote, demoteL, D.global, D.flat, D.leaf, D.cells, TI.agg, TD.rowish, callOpV, moveL, CC, keepB, St.borrowL, St.borrow, D.isLsl, adoptR, adoptC, adoptCL, adoptL, adopt, List.toArray, Array.toList, Nat.reduceEqDiff, Nat.reduceAdd, Nat.reduceSub, Nat.reduceMul, Nat.reduceLeDiff, Nat.reduceLT, reduceIte, reduceCtorEq, forall_const, imp_self, Int.reduceNeg, Int.reduceLT, Int.reduceLE, Int.reduceGT, Int.reduceGE, Int.reduceAdd, Int.reduceSub, Int.reduceMul, Int.reduceToNat, Int.reduceEq, ne_eq, eq_self]
    exact ⟨_, rfl, rfl⟩

set_option maxRecDepth 10000 in
theorem run67 (C : Callees) (hC : LibIntC C) (l : List UInt8) (v : Nat) (n : Int) (hv : v < 18446744073709551616) (hl : l.length ≤ 900000) (B : Hp) :
    runV T C fi67 [.vec 1 (l.map byteD) .none, .int .u64 v, .int .i64 n] B = some (.vec 1 ((putS l v n).map byteD) .fresh, B) := by
  rw [e_run _ _ _ rfl]
  unfold putS
  have hcl := fun B => hC.clone l B (by omega)
  by_cases h1 : n < 1
  · rw [if_pos (.inl h1)]
    simp only [fi67, Tryd.f67, an67, h1, hcl, T3, T5, T23, T84, T132, EL, e_finWf, e_finWt, e_finMN, e_finMX, retM, meltV, tupV, D.asBox, D.row1, D.freeR, D.freeO, List.replicate_succ, stepD, accs, accP, accW, simpleOp, isAl, isExt, flipD, D.fresh1, D.row, D.plain, D.plain.plainL, St.close, St.close1, St.borrow, retV, resV, resL, outCL, outC, outL, outD, wantedV, opV, An.mid, thawV, St.settle, D.plainU, prune, envOf, get, put, eval, evalT, nz, argsV, capsV, ofV, binV, binV.aggV, unV, intV, eqOp, isConst, natV, optV, loadV, loadC, storeV, setC, St.at_, partV, partTy, indexAddrV, fieldAddrV, sliceV, sliceV.rowSl, sliceV.strSl, bounds, cutP, builtinV, lenV, maxL, maxV, appendV, St.elems, roomy, rowOf, rowS, isStr, esz, tdOf, convV, buildV, fillV, partsV, okParts, fillL, D.whole, D.demoteC, D.demote, demoteL, D.global, D.flat, D.leaf, D.cells, TI.agg, TD.rowish, callOpV, moveL, CC, keepB, St.borrowL, St.borrow, D.isLsl, adoptR, adoptC, adoptCL, adoptL, adopt, List.toArray, Array.toList, Nat.reduceEqDiff, Nat.reduceAdd, Nat.reduceSub, Nat.reduceMul, Nat.reduceLeDiff, Nat.reduceLT, reduceIte, reduceCtorEq, forall_const, imp_self, Int.reduceNeg, Int.reduceLT, Int.reduceLE, Int.reduceGT, Int.reduceGE, Int.reduceAdd, Int.reduceSub, Int.reduceMul, Int.reduceToNat, Int.reduceEq, ne_eq, eq_self]
  by_cases h2 : n > 64
  · rw [if_pos (.inr h2)]
    simp only [fi67, Tryd.f67, an67, h1, h2, hcl, T3, T5, T23, T84, T132, EL, e_finWf, e_finWt, e_finMN, e_finMX, retM, meltV, tupV, D.asBox, D.row1, D.freeR, D.freeO, List.replicate_succ, stepD, accs, accP, accW, simpleOp, isAl, isExt, flipD, D.fresh1, D.row, D.plain, D.plain.plainL, St.close, St.close1, St.borrow, retV, resV, resL, outCL, outC, outL, outD, wantedV, opV, An.mid, thawV, St.settle, D.plainU, prune, envOf, get, put, eval, evalT, nz, argsV, capsV, ofV, binV, binV.aggV, unV, intV, eqOp, isConst, natV, optV, loadV, loadC, storeV, setC, St.at_, partV, partTy, indexAddrV, fieldAddrV, sliceV, sliceV.rowSl, sliceV.strSl, bounds, cutP, builtinV, lenV, maxL, maxV, appendV, St.elems, roomy, rowOf, rowS, isStr, esz, tdOf, convV, buildV, fillV, partsV, okParts, fillL, D.whole, D.demoteC, D.demote, demoteL, D.global, D.flat, D.leaf, D.cells, TI.agg, TD.rowish, callOpV, moveL, CC, keepB, St.borrowL, St.borrow, D.isLsl, adoptR, adoptC, adoptCL, adoptL, adopt, List.toArray, Array.toList, Nat.reduceEqDiff, Nat.reduceAdd, Nat.reduceSub, Nat.reduceMul, Nat.reduceLeDiff, Nat.reduceLT, reduceIte, reduceCtorEq, forall_const, imp_self, Int.reduceNeg, Int.reduceLT, Int.reduceLE, Int.reduceGT, Int.reduceGE, Int.reduceAdd, Int.reduceSub, Int.reduceMul, Int.reduceToNat, Int.reduceEq, ne_eq, eq_self]
  rw [if_neg (by omega)]
  obtain ⟨n, rfl⟩ : ∃ m : Nat, n = m := ⟨n.toNat, by omega⟩
  rw [Int.toNat_natCast]
  have g1 : IntKind.i64.wrap ((n : Int) - 1) = (n : Int) - 1 := wrapI (by omega) (by omega)
  simp only [fi67, Tryd.f67, an67, h1, h2, hcl, g1, T3, T5, T23, T84, T132, EL, e_finWf, e_finWt, e_finMN, e_finMX, retM, meltV, tupV, D.asBox, D.row1, D.freeR, D.freeO, List.replicate_succ, stepD, accs, accP, accW, simpleOp, isAl, isExt, flipD, D.fresh1, D.row, D.plain, D.plain.plainL, St.close, St.close1, St.borrow, retV, resV, resL, outCL, outC, outL, outD, wantedV, opV, An.mid, thawV, St.settle, D.plainU, prune, envOf, get, put, eval, evalT, nz, argsV, capsV, ofV, binV, binV.aggV, unV, intV, eqOp, isConst, natV, optV, loadV, loadC, storeV, setC, St.at_, partV, partTy, indexAddrV, fieldAddrV, sliceV, sliceV.rowSl, sliceV.strSl, bounds, cutP, builtinV, lenV, maxL, maxV, appendV, St.elems, roomy, rowOf, rowS, isStr, esz, tdOf, convV, buildV, fillV, partsV, okParts, fillL, D.whole, D.demoteC, D.demote, demoteL, D.global, D.flat, D.leaf, D.cells, TI.agg, TD.rowish, callOpV, moveL, CC, keepB, St.borrowL, St.borrow, D.isLsl, adoptR, adoptC, adoptCL, adoptL, adopt, List.toArray, Array.toList, Nat.reduceEqDiff, Nat.reduceAdd, Nat.reduceSub, Nat.reduceMul, Nat.reduceLeDiff, Nat.reduceLT, reduceIte, reduceCtorEq, forall_const, imp_self, Int.reduceNeg, Int.reduceLT, Int.reduceLE, Int.reduceGT, Int.reduceGE, Int.reduceAdd, Int.reduceSub, Int.reduceMul, Int.reduceToNat, Int.reduceEq, ne_eq, eq_self]
  refine' in_loop (c' := lp67_0) (fin T _ _ _) ?h rfl ?q
  case h =>
    have h0 : l ++ (bes v n).take (n - n) = l := by simp
    refine loop67 C B v hv l hl n (by omega) _ ?_
    unfold st67
    rw [h0]; rfl
  rintro x st' ⟨ρ, rfl, rfl, hg⟩
  simp only [hg, T3, T5, T23, T84, T132, EL, e_finWf, e_finWt, e_finMN, e_finMX, retM, meltV, tupV, D.asBox, D.row1, D.freeR, D.freeO, List.replicate_succ, stepD, accs, accP, accW, simpleOp, isAl, isExt, flipD, D.fresh1, D.row, D.plain, D.plain.plainL, St.close, St.close1, St.borrow, retV, resV, resL, outCL, outC, outL, outD, wantedV, opV, An.mid, thawV, St.settle, D.plainU, prune, envOf, get, put, eval, evalT, nz, argsV, capsV, ofV, binV, binV.aggV, unV, intV, eqOp, isConst, natV, optV, loadV, loadC, storeV, setC, St.at_, partV, partTy, indexAddrV, fieldAddrV, sliceV, sliceV.rowSl, sliceV.strSl, bounds, cutP, builtinV, lenV, maxL, maxV, appendV, St.elems, roomy, rowOf, rowS, isStr, esz, tdOf, convV, buildV, fillV, partsV, okParts, fillL, D.whole, D.demoteC, D.demote, demoteL, D.global, D.flat, D.leaf, D.cells, TI.agg, TD.rowish, callOpV, moveL, CC, keepB, St.borrowL, St.borrow, D.isLsl, adoptR, adoptC, adoptCL, adoptL, adopt, List.toArray, Array.toList, Nat.reduceEqDiff, Nat.reduceAdd, Nat.reduceSub, Nat.reduceMul, Nat.reduceLeDiff, Nat.reduceLT, reduceIte, reduceCtorEq, forall_const, imp_self, Int.reduceNeg, Int.reduceLT, Int.reduceLE, Int.reduceGT, Int.reduceGE, Int.reduceAdd, Int.reduceSub, Int.reduceMul, Int.reduceToNat, Int.reduceEq, ne_eq, eq_self]

theorem i67 {C : Callees} (hC : LibIntC C) (l : List UInt8) (v : Nat) (n : Int) (hv : v < 18446744073709551616) (hl : l.length ≤ 1000) (B : Hp) :
    C 67 [.vec 1 (l.map byteD) .none, .int .u64 v, .int .i64 n] B = some (.vec 1 ((putS l v n).map byteD) .fresh, B) := hC.f67 _ _ _ (run67 C hC l v n hv (by omega) B)
theorem j67 {C : Callees} (hC : LibIntC C) (l : List UInt8) (v : Nat) (n : Int) (hv : v < 18446744073709551616) (hl : l.length ≤ 900000) (B : Hp) :
    C 67 [.vec 1 (l.map byteD) .none, .int .u64 v, .int .i64 n] B = some (.vec 1 ((putS l v n).map byteD) .fresh, B) := hC.f67 _ _ _ (run67 C hC l v n hv hl B)

end Go.Proofs.YtfkhijjabkhmmaaDoor.V
