/-
Layer 31: who may see whom: what the program's functions compute.
-/
import Derived.Test.YtbbbhalmlboapaaDoorMA
import Derived.Test.YtbbbhalmlboapaaDoorIA
namespace Go.Proofs.YtbbbhalmlboapaaDoor.V
open Go Go.RowKit
set_option linter.unusedSimpArgs false
set_option linter.unusedVariables false

/-! warren/matrix.Check -/
def an33 : An := ⟨fun | 2 => some [1, 5] | 5 => some [1, 3, 5, 8] | _ => .none, fun _ => 0, fun _ => false, fun _ => .none⟩
noncomputable def fi33 : FI := ⟨1, 43, Tryd.f33.body.getD .skip, Tryd.f33.results.toList, an33, false, false⟩
theorem ok33 : FnOk Tryd.prog 33 fi33 := ⟨⟨Tryd.f33, Tryd.func33, by kernel_rfl, rfl, rfl, rfl⟩, by decide, by kernel_rfl, fun h => by cases h⟩
noncomputable def lp33_0 : Code := subC [1, 0, 1, 0, 0] (Tryd.f33.body.getD .skip)   -- head 2 keep [1, 5]
noncomputable def lp33_1 : Code := subC [1, 0, 1, 0, 0, 1, 1, 0, 0, 1, 1, 0, 0] (Tryd.f33.body.getD .skip)   -- head 5 keep [1, 3, 5, 8]
/-! warren/matrix.place -/
def an69 : An := ⟨fun _ => .none, fun _ => 0, fun _ => false, fun _ => .none⟩
noncomputable def fi69 : FI := ⟨1, 9, Tryd.f69.body.getD .skip, Tryd.f69.results.toList, an69, false, false⟩
theorem ok69 : FnOk Tryd.prog 69 fi69 := ⟨⟨Tryd.f69, Tryd.func69, by kernel_rfl, rfl, rfl, rfl⟩, by decide, by kernel_rfl, fun h => by cases h⟩
/-! warren/matrix.bit -/
def an66 : An := ⟨fun _ => .none, fun _ => 0, fun _ => false, fun _ => .none⟩
noncomputable def fi66 : FI := ⟨1, 6, Tryd.f66.body.getD .skip, Tryd.f66.results.toList, an66, false, false⟩
theorem ok66 : FnOk Tryd.prog 66 fi66 := ⟨⟨Tryd.f66, Tryd.func66, by kernel_rfl, rfl, rfl, rfl⟩, by decide, by kernel_rfl, fun h => by cases h⟩
/-! warren/matrix.two -/
def an65 : An := ⟨fun _ => .none, fun _ => 0, fun _ => false, fun _ => .none⟩
noncomputable def fi65 : FI := ⟨3, 26, Tryd.f65.body.getD .skip, Tryd.f65.results.toList, an65, false, false⟩
theorem ok65 : FnOk Tryd.prog 65 fi65 := ⟨⟨Tryd.f65, Tryd.func65, by kernel_rfl, rfl, rfl, rfl⟩, by decide, by kernel_rfl, fun h => by cases h⟩
/-! warren/matrix.Open -/
def an24 : An := ⟨fun _ => .none, fun _ => 0, fun _ => false, fun _ => .none⟩
noncomputable def fi24 : FI := ⟨3, 32, Tryd.f24.body.getD .skip, Tryd.f24.results.toList, an24, false, false⟩
theorem ok24 : FnOk Tryd.prog 24 fi24 := ⟨⟨Tryd.f24, Tryd.func24, by kernel_rfl, rfl, rfl, rfl⟩, by decide, by kernel_rfl, fun h => by cases h⟩
/-! warren/matrix.Close -/
def an26 : An := ⟨fun _ => .none, fun _ => 0, fun _ => false, fun _ => .none⟩
noncomputable def fi26 : FI := ⟨3, 32, Tryd.f26.body.getD .skip, Tryd.f26.results.toList, an26, false, false⟩
theorem ok26 : FnOk Tryd.prog 26 fi26 := ⟨⟨Tryd.f26, Tryd.func26, by kernel_rfl, rfl, rfl, rfl⟩, by decide, by kernel_rfl, fun h => by cases h⟩
/-! warren/matrix.Sees -/
def an31 : An := ⟨fun _ => .none, fun _ => 0, fun _ => false, fun _ => .none⟩
noncomputable def fi31 : FI := ⟨3, 32, Tryd.f31.body.getD .skip, Tryd.f31.results.toList, an31, false, false⟩
theorem ok31 : FnOk Tryd.prog 31 fi31 := ⟨⟨Tryd.f31, Tryd.func31, by kernel_rfl, rfl, rfl, rfl⟩, by decide, by kernel_rfl, fun h => by cases h⟩
/-! warren/matrix.Leave -/
def an29 : An := ⟨fun | 5 => some [1, 2, 4, 19] | _ => .none, fun _ => 0, fun _ => false, fun _ => .none⟩
noncomputable def fi29 : FI := ⟨2, 31, Tryd.f29.body.getD .skip, Tryd.f29.results.toList, an29, false, false⟩
theorem ok29 : FnOk Tryd.prog 29 fi29 := ⟨⟨Tryd.f29, Tryd.func29, by kernel_rfl, rfl, rfl, rfl⟩, by decide, by kernel_rfl, fun h => by cases h⟩
noncomputable def lp29_0 : Code := subC [1, 1, 1, 0, 1, 0, 0] (Tryd.f29.body.getD .skip)   -- head 5 keep [1, 2, 4, 19]
/-! warren/matrix.Group -/
def an27 : An := ⟨fun | 4 => some [2, 6, 7] | _ => .none, fun _ => 0, fun _ => false, fun _ => .none⟩
noncomputable def fi27 : FI := ⟨2, 37, Tryd.f27.body.getD .skip, Tryd.f27.results.toList, an27, false, false⟩
theorem ok27 : FnOk Tryd.prog 27 fi27 := ⟨⟨Tryd.f27, Tryd.func27, by kernel_rfl, rfl, rfl, rfl⟩, by decide, by kernel_rfl, fun h => by cases h⟩
noncomputable def lp27_0 : Code := subC [1, 1, 1, 0, 0, 0] (Tryd.f27.body.getD .skip)   -- head 4 keep [2, 6, 7]
/-! warren/matrix.Apart -/
def an36 : An := ⟨fun | 4 => some [1, 10, 11] | _ => .none, fun _ => 0, fun _ => false, fun _ => .none⟩
noncomputable def fi36 : FI := ⟨2, 27, Tryd.f36.body.getD .skip, Tryd.f36.results.toList, an36, false, false⟩
theorem ok36 : FnOk Tryd.prog 36 fi36 := ⟨⟨Tryd.f36, Tryd.func36, by kernel_rfl, rfl, rfl, rfl⟩, by decide, by kernel_rfl, fun h => by cases h⟩
noncomputable def lp36_0 : Code := subC [1, 1, 0, 1, 0, 0] (Tryd.f36.body.getD .skip)   -- head 4 keep [1, 10, 11]
structure Lib31 (C : Callees) : Prop extends LibInt C where
  f33 : Has T C 33 fi33
  f69 : Has T C 69 fi69
  f66 : Has T C 66 fi66
  f65 : Has T C 65 fi65
  f24 : Has T C 24 fi24
  f26 : Has T C 26 fi26
  f31 : Has T C 31 fi31
  f29 : Has T C 29 fi29
  f27 : Has T C 27 fi27
  f36 : Has T C 36 fi36

variable {C : Callees}

theorem nat0 (a : Nat) : (0 : Int) ≤ (a : Int) := Int.natCast_nonneg a
theorem wrap_u16 {x : Int} (h0 : 0 ≤ x) (h1 : x < 65536) : IntKind.u16.wrap x = x := by
  unfold IntKind.wrap
  have : x % (2 ^ IntKind.u16.bits : Int) = x := Int.emod_eq_of_lt h0 h1
  simp [IntKind.signed, this]
theorem u16_and {x y : Nat} (hx : x < 65536) (hy : y < 65536) : bitsV .and .u16 (x : Int) (y : Int) = ((x &&& y : Nat) : Int) := bits_nat (k := .u16) rfl .and x y hx hy
theorem u16_or {x y : Nat} (hx : x < 65536) (hy : y < 65536) : bitsV .or .u16 (x : Int) (y : Int) = ((x ||| y : Nat) : Int) := bits_nat (k := .u16) rfl .or x y hx hy
theorem u16_andn {x y : Nat} (hx : x < 65536) (hy : y < 65536) : bitsV .andNot .u16 (x : Int) (y : Int) = ((andN x y : Nat) : Int) := bits_nat (k := .u16) rfl .andNot x y hx hy
theorem and_pow {x b : Nat} : (((x &&& 2 ^ b : Nat) : Int) = 0) = (x.testBit b = false) := by
  apply propext
  rw [Int.natCast_eq_zero]
  constructor
  · intro h
    have := congrArg (fun n => n.testBit b) h
    simpa [Nat.testBit_and, pow_bit] using this
  · intro h
    apply Nat.eq_of_testBit_eq
    intro i
    rw [Nat.testBit_and, pow_bit, Nat.zero_testBit]
    by_cases e : b = i
    · subst e; rw [h]; rfl
    · simp [e]

/-- Is there a place? -/
def plc (a : Int) : Bool := decide (0 ≤ a) && decide (a < 16)
theorem plc_t {a : Int} (h : plc a = true) : ∃ n : Nat, a = n ∧ n < 16 := by
  simp only [plc, Bool.and_eq_true, decide_eq_true_eq] at h
  exact ⟨a.toNat, by omega, by omega⟩
theorem plc_n {n : Nat} (h : n < 16) : plc (n : Int) = true := by
  simp only [plc, Bool.and_eq_true, decide_eq_true_eq]; omega

set_option maxRecDepth 10000 in
theorem run69 (C : Callees) (a : Int) (B : Hp) : runV T C fi69 [.int .i64 a] B = some (.bool (plc a), B) := by
  rw [e_run _ _ _ rfl]
  unfold plc
  by_cases h1 : 0 ≤ a
  · have g1 : a ≥ 0 := h1
    by_cases h2 : a < 16
    · simp only [fi69, Tryd.f69, an69, g1, h1, h2, T3, EL, List.replicate_succ, stepD, accs, accP, accW, simpleOp, isAl, isExt, flipD, D.fresh1, D.row, D.plain, D.plain.plainL, St.close, St.close1, St.borrow, retV, resV, resL, outCL, outC, outL, outD, wantedV, opV, An.mid, thawV, D.plainU, prune, envOf, get, put, eval, evalT, nz, argsV, capsV, ofV, binV, binV.aggV, unV, intV, eqOp, isConst, natV, optV, loadV, loadC, storeV, setC, St.at_, partV, partTy, indexAddrV, fieldAddrV, sliceV, sliceV.rowSl, sliceV.strSl, bounds, cutP, builtinV, lenV, maxL, maxV, appendV, St.elems, roomy, rowOf, rowS, isStr, esz, tdOf, convV, buildV, fillV, partsV, okParts, fillL, D.whole, D.demoteC, D.demote, demoteL, D.global, D.flat, D.leaf, D.cells, TI.agg, TD.rowish, callOpV, moveL, CC, keepB, St.borrowL, St.borrow, D.isLsl, adoptR, adoptC, adoptCL, adoptL, adopt, List.toArray, Array.toList, Nat.reduceEqDiff, Nat.reduceAdd, Nat.reduceSub, Nat.reduceMul, Nat.reduceLeDiff, Nat.reduceLT, reduceIte, reduceCtorEq, forall_const, imp_self, Int.reduceNeg, Int.reduceLT, Int.reduceLE, Int.reduceGT, Int.reduceGE, Int.reduceAdd, Int.reduceSub, Int.reduceMul, Int.reduceToNat, Int.reduceEq, ne_eq, eq_self]
    · simp only [fi69, Tryd.f69, an69, g1, h1, h2, T3, EL, List.replicate_succ, stepD, accs, accP, accW, simpleOp, isAl, isExt, flipD, D.fresh1, D.row, D.plain, D.plain.plainL, St.close, St.close1, St.borrow, retV, resV, resL, outCL, outC, outL, outD, wantedV, opV, An.mid, thawV, D.plainU, prune, envOf, get, put, eval, evalT, nz, argsV, capsV, ofV, binV, binV.aggV, unV, intV, eqOp, isConst, natV, optV, loadV, loadC, storeV, setC, St.at_, partV, partTy, indexAddrV, fieldAddrV, sliceV, sliceV.rowSl, sliceV.strSl, bounds, cutP, builtinV, lenV, maxL, maxV, appendV, St.elems, roomy, rowOf, rowS, isStr, esz, tdOf, convV, buildV, fillV, partsV, okParts, fillL, D.whole, D.demoteC, D.demote, demoteL, D.global, D.flat, D.leaf, D.cells, TI.agg, TD.rowish, callOpV, moveL, CC, keepB, St.borrowL, St.borrow, D.isLsl, adoptR, adoptC, adoptCL, adoptL, adopt, List.toArray, Array.toList, Nat.reduceEqDiff, Nat.reduceAdd, Nat.reduceSub, Nat.reduceMul, Nat.reduceLeDiff, Nat.reduceLT, reduceIte, reduceCtorEq, forall_const, imp_self, Int.reduceNeg, Int.reduceLT, Int.reduceLE, Int.reduceGT, Int.reduceGE, Int.reduceAdd, Int.reduceSub, Int.reduceMul, Int.reduceToNat, Int.reduceEq, ne_eq, eq_self]
  · have g1 : ¬ a ≥ 0 := h1
    simp only [fi69, Tryd.f69, an69, g1, h1, T3, EL, List.replicate_succ, stepD, accs, accP, accW, simpleOp, isAl, isExt, flipD, D.fresh1, D.row, D.plain, D.plain.plainL, St.close, St.close1, St.borrow, retV, resV, resL, outCL, outC, outL, outD, wantedV, opV, An.mid, thawV, D.plainU, prune, envOf, get, put, eval, evalT, nz, argsV, capsV, ofV, binV, binV.aggV, unV, intV, eqOp, isConst, natV, optV, loadV, loadC, storeV, setC, St.at_, partV, partTy, indexAddrV, fieldAddrV, sliceV, sliceV.rowSl, sliceV.strSl, bounds, cutP, builtinV, lenV, maxL, maxV, appendV, St.elems, roomy, rowOf, rowS, isStr, esz, tdOf, convV, buildV, fillV, partsV, okParts, fillL, D.whole, D.demoteC, D.demote, demoteL, D.global, D.flat, D.leaf, D.cells, TI.agg, TD.rowish, callOpV, moveL, CC, keepB, St.borrowL, St.borrow, D.isLsl, adoptR, adoptC, adoptCL, adoptL, adopt, List.toArray, Array.toList, Nat.reduceEqDiff, Nat.reduceAdd, Nat.reduceSub, Nat.reduceMul, Nat.reduceLeDiff, Nat.reduceLT, reduceIte, reduceCtorEq, forall_const, imp_self, Int.reduceNeg, Int.reduceLT, Int.reduceLE, Int.reduceGT, Int.reduceGE, Int.reduceAdd, Int.reduceSub, Int.reduceMul, Int.reduceToNat, Int.reduceEq, ne_eq, eq_self]
theorem c69 (hC : Lib31 C) (a : Int) (B : Hp) : C 69 [.int .i64 a] B = some (.bool (plc a), B) := hC.f69 _ _ _ (run69 C a B)

theorem shl_u16 {b : Nat} (h : b < 16) : shlV .u16 1 (b : Int) = ((2 ^ b : Nat) : Int) := by
  have h1 : min ((b : Nat) : Int).toNat IntKind.u16.bits = b := by show min _ 16 = _; omega
  rw [shlV, h1, Int.one_mul]
  have h2 : (2 : Int) ^ b = ((2 ^ b : Nat) : Int) := by rw [Int.natCast_pow]; rfl
  rw [h2, wrap_u16 (Int.natCast_nonneg _) (Int.ofNat_lt.2 (pow16 h))]

set_option maxRecDepth 10000 in
theorem run66 (C : Callees) (b : Nat) (h : b < 16) (B : Hp) : runV T C fi66 [.int .i64 b] B = some (.int .u16 (2 ^ b : Nat), B) := by
  rw [e_run _ _ _ rfl]
  have g1 : IntKind.u64.wrap (b : Int) = b := wrap_u64 (by omega) (by omega)
  have g2 : ¬ (b : Int) < 0 := by omega
  have g3 := shl_u16 h
  simp only [fi66, Tryd.f66, an66, g1, g2, g3, T3, T39, T59, EL, List.replicate_succ, stepD, accs, accP, accW, simpleOp, isAl, isExt, flipD, D.fresh1, D.row, D.plain, D.plain.plainL, St.close, St.close1, St.borrow, retV, resV, resL, outCL, outC, outL, outD, wantedV, opV, An.mid, thawV, D.plainU, prune, envOf, get, put, eval, evalT, nz, argsV, capsV, ofV, binV, binV.aggV, unV, intV, eqOp, isConst, natV, optV, loadV, loadC, storeV, setC, St.at_, partV, partTy, indexAddrV, fieldAddrV, sliceV, sliceV.rowSl, sliceV.strSl, bounds, cutP, builtinV, lenV, maxL, maxV, appendV, St.elems, roomy, rowOf, rowS, isStr, esz, tdOf, convV, buildV, fillV, partsV, okParts, fillL, D.whole, D.demoteC, D.demote, demoteL, D.global, D.flat, D.leaf, D.cells, TI.agg, TD.rowish, callOpV, moveL, CC, keepB, St.borrowL, St.borrow, D.isLsl, adoptR, adoptC, adoptCL, adoptL, adopt, List.toArray, Array.toList, Nat.reduceEqDiff, Nat.reduceAdd, Nat.reduceSub, Nat.reduceMul, Nat.reduceLeDiff, Nat.reduceLT, reduceIte, reduceCtorEq, forall_const, imp_self, Int.reduceNeg, Int.reduceLT, Int.reduceLE, Int.reduceGT, Int.reduceGE, Int.reduceAdd, Int.reduceSub, Int.reduceMul, Int.reduceToNat, Int.reduceEq, ne_eq, eq_self]
theorem c66 (hC : Lib31 C) (b : Nat) (h : b < 16) (B : Hp) : C 66 [.int .i64 b] B = some (.int .u16 (2 ^ b : Nat), B) := hC.f66 _ _ _ (run66 C b h B)

/-! ### May a matrix be? -/
abbrev mD (m : Nat → Nat) : D := .agg (nums .u16 16 m)
def bad (m : Nat → Nat) (a b : Nat) : Prop := tb m a b ≠ tb m b a ∨ (a = b ∧ tb m a a = true)
theorem may_bad {m : Nat → Nat} : May m ↔ ∀ a b, a < 16 → b < 16 → ¬ bad m a b := by
  constructor
  · intro h a b ha hb hbad
    obtain ⟨h1, h2⟩ := h a b ha hb
    rcases hbad with h3 | ⟨_, h3⟩
    · exact h3 h1
    · rw [h2] at h3; cases h3
  · intro h a b ha hb
    have h1 := h a b ha hb
    have h2 := h a a ha ha
    refine ⟨Classical.byContradiction fun h3 => h1 (.inl h3), ?_⟩
    cases e : tb m a a with
    | false => rfl
    | true => exact absurd (.inr ⟨rfl, e⟩) h2

def st33 (B : Hp) (m : Nat → Nat) (a : Nat) : St := ⟨[(1, .lptr 0 0), (5, .int .i64 a)], [some (nums .u16 16 m)], [], B⟩
def st33_1 (B : Hp) (m : Nat → Nat) (a b : Nat) : St := ⟨[(1, .lptr 0 0), (3, .int .i64 a), (5, .int .i64 a), (8, .int .i64 b)], [some (nums .u16 16 m)], [], B⟩

set_option maxRecDepth 10000 in
theorem loop33_1 (hC : Lib31 C) (B : Hp) (m : Nat → Nat) (hm : Bnd m) (a : Nat) (ha : a < 16) (st : St) (hst : an33.at_ (some 5) st = st33_1 B m a 0) :
    ∃ x st', loopC T an33 C lp33_1 st = some (x, st') ∧ ((x = .exit 2 ∧ (∀ b, b < 16 → ¬ bad m a b) ∧ ∃ ρ, st' = ⟨ρ, [some (nums .u16 16 m)], [], B⟩ ∧ get ρ 1 = .lptr 0 0 ∧ get ρ 5 = .int .i64 a) ∨ (x = .ret ∧ (∃ b, b < 16 ∧ bad m a b) ∧ ∃ ρ L, st' = ⟨ρ, L, [], B⟩ ∧ get ρ 2 = .iface 102 (.int .i64 1))) := by
  refine loop_rule (st33_1 B m a) (fun b => b ≤ 16 ∧ ∀ k, k < b → ¬ bad m a k) (fun b => 16 - b) _ ?_ 0 st hst ⟨by omega, fun k hk => by omega⟩
  rintro b ⟨hb, hI⟩
  rcases Nat.lt_or_ge b 16 with h | h
  · have g0 : (b : Int) < 16 := by omega
    have n1 := nat0 a
    have n2 := nat0 b
    have g1 := nums_get (k := .u16) (m := m) ha
    have g2 := nums_get (k := .u16) (m := m) h
    have c1 := c66 hC a ha
    have c2 := c66 hC b h
    have b1 := u16_and (hm a ha) (pow16 h)
    have b2 := u16_and (hm b h) (pow16 ha)
    have b3 := u16_and (hm a ha) (pow16 ha)
    have z1 := and_pow (x := m a) (b := b)
    have z2 := and_pow (x := m b) (b := a)
    have z3 := and_pow (x := m a) (b := a)
    have w1 : IntKind.i64.wrap ((b : Int) + 1) = ((b + 1 : Nat) : Int) := by rw [wrapI (by omega) (by omega)]; rfl
    have nx : ∀ {k}, k < b + 1 → (∀ k, k < b → ¬ bad m a k) → ¬ bad m a b → ¬ bad m a k := fun {k} hk h1 h2 => by
      rcases Nat.lt_or_ge k b with h3 | h3
      · exact h1 k h3
      · obtain rfl : k = b := by omega
        exact h2
    cases e1 : (m a).testBit b <;> cases e2 : (m b).testBit a <;> rw [e1] at z1 <;> rw [e2] at z2
    · have hn : ¬ bad m a b := by
        rintro (h1 | ⟨rfl, h1⟩)
        · exact h1 (e1.trans e2.symm)
        · unfold tb at h1; rw [e1] at h1; cases h1
      left
      refine ⟨b + 1, ?_, ⟨by omega, fun k hk => nx hk hI hn⟩, by omega⟩
      by_cases e : a = b
      · subst e
        simp only [st33_1, lp33_1, subC, atC, Tryd.f33, an33, g0, n1, n2, ha, h, g1, g2, c1, c2, b1, b2, z1, z2, w1, AL, T3, T4, T39, T42, T102, EL, List.replicate_succ, stepD, accs, accP, accW, simpleOp, isAl, isExt, flipD, D.fresh1, D.row, D.plain, D.plain.plainL, St.close, St.close1, St.borrow, retV, resV, resL, outCL, outC, outL, outD, wantedV, opV, An.mid, thawV, D.plainU, prune, envOf, get, put, eval, evalT, nz, argsV, capsV, ofV, binV, binV.aggV, unV, intV, eqOp, isConst, natV, optV, loadV, loadC, storeV, setC, St.at_, partV, partTy, indexAddrV, fieldAddrV, sliceV, sliceV.rowSl, sliceV.strSl, bounds, cutP, builtinV, lenV, maxL, maxV, appendV, St.elems, roomy, rowOf, rowS, isStr, esz, tdOf, convV, buildV, fillV, partsV, okParts, fillL, D.whole, D.demoteC, D.demote, demoteL, D.global, D.flat, D.leaf, D.cells, TI.agg, TD.rowish, callOpV, moveL, CC, keepB, St.borrowL, St.borrow, D.isLsl, adoptR, adoptC, adoptCL, adoptL, adopt, List.toArray, Array.toList, Nat.reduceEqDiff, Nat.reduceAdd, Nat.reduceSub, Nat.reduceMul, Nat.reduceLeDiff, Nat.reduceLT, reduceIte, reduceCtorEq, forall_const, imp_self, Int.reduceNeg, Int.reduceLT, Int.reduceLE, Int.reduceGT, Int.reduceGE, Int.reduceAdd, Int.reduceSub, Int.reduceMul, Int.reduceToNat, Int.reduceEq, ne_eq, eq_self]
        exact ⟨_, rfl, rfl⟩
      · have e3 : ¬ (a : Int) = b := by omega
        simp only [st33_1, lp33_1, subC, atC, Tryd.f33, an33, e3, g0, n1, n2, ha, h, g1, g2, c1, c2, b1, b2, z1, z2, w1, AL, T3, T4, T39, T42, T102, EL, List.replicate_succ, stepD, accs, accP, accW, simpleOp, isAl, isExt, flipD, D.fresh1, D.row, D.plain, D.plain.plainL, St.close, St.close1, St.borrow, retV, resV, resL, outCL, outC, outL, outD, wantedV, opV, An.mid, thawV, D.plainU, prune, envOf, get, put, eval, evalT, nz, argsV, capsV, ofV, binV, binV.aggV, unV, intV, eqOp, isConst, natV, optV, loadV, loadC, storeV, setC, St.at_, partV, partTy, indexAddrV, fieldAddrV, sliceV, sliceV.rowSl, sliceV.strSl, bounds, cutP, builtinV, lenV, maxL, maxV, appendV, St.elems, roomy, rowOf, rowS, isStr, esz, tdOf, convV, buildV, fillV, partsV, okParts, fillL, D.whole, D.demoteC, D.demote, demoteL, D.global, D.flat, D.leaf, D.cells, TI.agg, TD.rowish, callOpV, moveL, CC, keepB, St.borrowL, St.borrow, D.isLsl, adoptR, adoptC, adoptCL, adoptL, adopt, List.toArray, Array.toList, Nat.reduceEqDiff, Nat.reduceAdd, Nat.reduceSub, Nat.reduceMul, Nat.reduceLeDiff, Nat.reduceLT, reduceIte, reduceCtorEq, forall_const, imp_self, Int.reduceNeg, Int.reduceLT, Int.reduceLE, Int.reduceGT, Int.reduceGE, Int.reduceAdd, Int.reduceSub, Int.reduceMul, Int.reduceToNat, Int.reduceEq, ne_eq, eq_self]
        exact ⟨_, rfl, rfl⟩
    · right
      simp only [st33_1, lp33_1, subC, atC, Tryd.f33, an33, g0, n1, n2, ha, h, g1, g2, c1, c2, b1, b2, z1, z2, w1, AL, T3, T4, T39, T42, T102, EL, List.replicate_succ, stepD, accs, accP, accW, simpleOp, isAl, isExt, flipD, D.fresh1, D.row, D.plain, D.plain.plainL, St.close, St.close1, St.borrow, retV, resV, resL, outCL, outC, outL, outD, wantedV, opV, An.mid, thawV, D.plainU, prune, envOf, get, put, eval, evalT, nz, argsV, capsV, ofV, binV, binV.aggV, unV, intV, eqOp, isConst, natV, optV, loadV, loadC, storeV, setC, St.at_, partV, partTy, indexAddrV, fieldAddrV, sliceV, sliceV.rowSl, sliceV.strSl, bounds, cutP, builtinV, lenV, maxL, maxV, appendV, St.elems, roomy, rowOf, rowS, isStr, esz, tdOf, convV, buildV, fillV, partsV, okParts, fillL, D.whole, D.demoteC, D.demote, demoteL, D.global, D.flat, D.leaf, D.cells, TI.agg, TD.rowish, callOpV, moveL, CC, keepB, St.borrowL, St.borrow, D.isLsl, adoptR, adoptC, adoptCL, adoptL, adopt, List.toArray, Array.toList, Nat.reduceEqDiff, Nat.reduceAdd, Nat.reduceSub, Nat.reduceMul, Nat.reduceLeDiff, Nat.reduceLT, reduceIte, reduceCtorEq, forall_const, imp_self, Int.reduceNeg, Int.reduceLT, Int.reduceLE, Int.reduceGT, Int.reduceGE, Int.reduceAdd, Int.reduceSub, Int.reduceMul, Int.reduceToNat, Int.reduceEq, ne_eq, eq_self]
      exact ⟨_, _, rfl, by simp, .inr ⟨rfl, ⟨b, h, .inl (by unfold tb; rw [e1, e2]; simp)⟩, _, _, rfl, rfl⟩⟩
    · right
      simp only [st33_1, lp33_1, subC, atC, Tryd.f33, an33, g0, n1, n2, ha, h, g1, g2, c1, c2, b1, b2, z1, z2, w1, AL, T3, T4, T39, T42, T102, EL, List.replicate_succ, stepD, accs, accP, accW, simpleOp, isAl, isExt, flipD, D.fresh1, D.row, D.plain, D.plain.plainL, St.close, St.close1, St.borrow, retV, resV, resL, outCL, outC, outL, outD, wantedV, opV, An.mid, thawV, D.plainU, prune, envOf, get, put, eval, evalT, nz, argsV, capsV, ofV, binV, binV.aggV, unV, intV, eqOp, isConst, natV, optV, loadV, loadC, storeV, setC, St.at_, partV, partTy, indexAddrV, fieldAddrV, sliceV, sliceV.rowSl, sliceV.strSl, bounds, cutP, builtinV, lenV, maxL, maxV, appendV, St.elems, roomy, rowOf, rowS, isStr, esz, tdOf, convV, buildV, fillV, partsV, okParts, fillL, D.whole, D.demoteC, D.demote, demoteL, D.global, D.flat, D.leaf, D.cells, TI.agg, TD.rowish, callOpV, moveL, CC, keepB, St.borrowL, St.borrow, D.isLsl, adoptR, adoptC, adoptCL, adoptL, adopt, List.toArray, Array.toList, Nat.reduceEqDiff, Nat.reduceAdd, Nat.reduceSub, Nat.reduceMul, Nat.reduceLeDiff, Nat.reduceLT, reduceIte, reduceCtorEq, forall_const, imp_self, Int.reduceNeg, Int.reduceLT, Int.reduceLE, Int.reduceGT, Int.reduceGE, Int.reduceAdd, Int.reduceSub, Int.reduceMul, Int.reduceToNat, Int.reduceEq, ne_eq, eq_self]
      exact ⟨_, _, rfl, by simp, .inr ⟨rfl, ⟨b, h, .inl (by unfold tb; rw [e1, e2]; simp)⟩, _, _, rfl, rfl⟩⟩
    · by_cases e : a = b
      · subst e
        right
        simp only [st33_1, lp33_1, subC, atC, Tryd.f33, an33, g0, n1, n2, ha, h, g1, g2, c1, c2, b1, b2, z1, z2, w1, AL, T3, T4, T39, T42, T102, EL, List.replicate_succ, stepD, accs, accP, accW, simpleOp, isAl, isExt, flipD, D.fresh1, D.row, D.plain, D.plain.plainL, St.close, St.close1, St.borrow, retV, resV, resL, outCL, outC, outL, outD, wantedV, opV, An.mid, thawV, D.plainU, prune, envOf, get, put, eval, evalT, nz, argsV, capsV, ofV, binV, binV.aggV, unV, intV, eqOp, isConst, natV, optV, loadV, loadC, storeV, setC, St.at_, partV, partTy, indexAddrV, fieldAddrV, sliceV, sliceV.rowSl, sliceV.strSl, bounds, cutP, builtinV, lenV, maxL, maxV, appendV, St.elems, roomy, rowOf, rowS, isStr, esz, tdOf, convV, buildV, fillV, partsV, okParts, fillL, D.whole, D.demoteC, D.demote, demoteL, D.global, D.flat, D.leaf, D.cells, TI.agg, TD.rowish, callOpV, moveL, CC, keepB, St.borrowL, St.borrow, D.isLsl, adoptR, adoptC, adoptCL, adoptL, adopt, List.toArray, Array.toList, Nat.reduceEqDiff, Nat.reduceAdd, Nat.reduceSub, Nat.reduceMul, Nat.reduceLeDiff, Nat.reduceLT, reduceIte, reduceCtorEq, forall_const, imp_self, Int.reduceNeg, Int.reduceLT, Int.reduceLE, Int.reduceGT, Int.reduceGE, Int.reduceAdd, Int.reduceSub, Int.reduceMul, Int.reduceToNat, Int.reduceEq, ne_eq, eq_self]
        exact ⟨_, _, rfl, by simp, .inr ⟨rfl, ⟨a, h, .inr ⟨rfl, e1⟩⟩, _, _, rfl, rfl⟩⟩
      · have e3 : ¬ (a : Int) = b := by omega
        have hn : ¬ bad m a b := by
          rintro (h1 | ⟨rfl, h1⟩)
          · exact h1 (e1.trans e2.symm)
          · exact e rfl
        left
        refine ⟨b + 1, ?_, ⟨by omega, fun k hk => nx hk hI hn⟩, by omega⟩
        simp only [st33_1, lp33_1, subC, atC, Tryd.f33, an33, e3, g0, n1, n2, ha, h, g1, g2, c1, c2, b1, b2, z1, z2, w1, AL, T3, T4, T39, T42, T102, EL, List.replicate_succ, stepD, accs, accP, accW, simpleOp, isAl, isExt, flipD, D.fresh1, D.row, D.plain, D.plain.plainL, St.close, St.close1, St.borrow, retV, resV, resL, outCL, outC, outL, outD, wantedV, opV, An.mid, thawV, D.plainU, prune, envOf, get, put, eval, evalT, nz, argsV, capsV, ofV, binV, binV.aggV, unV, intV, eqOp, isConst, natV, optV, loadV, loadC, storeV, setC, St.at_, partV, partTy, indexAddrV, fieldAddrV, sliceV, sliceV.rowSl, sliceV.strSl, bounds, cutP, builtinV, lenV, maxL, maxV, appendV, St.elems, roomy, rowOf, rowS, isStr, esz, tdOf, convV, buildV, fillV, partsV, okParts, fillL, D.whole, D.demoteC, D.demote, demoteL, D.global, D.flat, D.leaf, D.cells, TI.agg, TD.rowish, callOpV, moveL, CC, keepB, St.borrowL, St.borrow, D.isLsl, adoptR, adoptC, adoptCL, adoptL, adopt, List.toArray, Array.toList, Nat.reduceEqDiff, Nat.reduceAdd, Nat.reduceSub, Nat.reduceMul, Nat.reduceLeDiff, Nat.reduceLT, reduceIte, reduceCtorEq, forall_const, imp_self, Int.reduceNeg, Int.reduceLT, Int.reduceLE, Int.reduceGT, Int.reduceGE, Int.reduceAdd, Int.reduceSub, Int.reduceMul, Int.reduceToNat, Int.reduceEq, ne_eq, eq_self]
        exact ⟨_, rfl, rfl⟩
  · right
    obtain rfl : b = 16 := by omega
    have g0 : ¬ ((16 : Nat) : Int) < 16 := by omega
    simp only [st33_1, lp33_1, subC, atC, Tryd.f33, an33, g0, T3, T4, T39, T42, T102, EL, List.replicate_succ, stepD, accs, accP, accW, simpleOp, isAl, isExt, flipD, D.fresh1, D.row, D.plain, D.plain.plainL, St.close, St.close1, St.borrow, retV, resV, resL, outCL, outC, outL, outD, wantedV, opV, An.mid, thawV, D.plainU, prune, envOf, get, put, eval, evalT, nz, argsV, capsV, ofV, binV, binV.aggV, unV, intV, eqOp, isConst, natV, optV, loadV, loadC, storeV, setC, St.at_, partV, partTy, indexAddrV, fieldAddrV, sliceV, sliceV.rowSl, sliceV.strSl, bounds, cutP, builtinV, lenV, maxL, maxV, appendV, St.elems, roomy, rowOf, rowS, isStr, esz, tdOf, convV, buildV, fillV, partsV, okParts, fillL, D.whole, D.demoteC, D.demote, demoteL, D.global, D.flat, D.leaf, D.cells, TI.agg, TD.rowish, callOpV, moveL, CC, keepB, St.borrowL, St.borrow, D.isLsl, adoptR, adoptC, adoptCL, adoptL, adopt, List.toArray, Array.toList, Nat.reduceEqDiff, Nat.reduceAdd, Nat.reduceSub, Nat.reduceMul, Nat.reduceLeDiff, Nat.reduceLT, reduceIte, reduceCtorEq, forall_const, imp_self, Int.reduceNeg, Int.reduceLT, Int.reduceLE, Int.reduceGT, Int.reduceGE, Int.reduceAdd, Int.reduceSub, Int.reduceMul, Int.reduceToNat, Int.reduceEq, ne_eq, eq_self]
    exact ⟨_, _, rfl, by simp, .inl ⟨rfl, hI, _, rfl, rfl, rfl⟩⟩

set_option maxRecDepth 10000 in
theorem loop33 (hC : Lib31 C) (B : Hp) (m : Nat → Nat) (hm : Bnd m) (st : St) (hst : an33.at_ (some 2) st = st33 B m 0) :
    ∃ x st', loopC T an33 C lp33_0 st = some (x, st') ∧ ∃ ρ L, st' = ⟨ρ, L, [], B⟩ ∧ ((x = .exit 0 ∧ mayM m = true) ∨ (x = .ret ∧ mayM m = false ∧ get ρ 2 = .iface 102 (.int .i64 1))) := by
  refine loop_rule (st33 B m) (fun a => a ≤ 16 ∧ ∀ i k, i < a → k < 16 → ¬ bad m i k) (fun a => 16 - a) _ ?_ 0 st hst ⟨by omega, fun i k hi => by omega⟩
  rintro a ⟨ha, hI⟩
  rcases Nat.lt_or_ge a 16 with h | h
  · have g0 : (a : Int) < 16 := by omega
    have w1 : IntKind.i64.wrap ((a : Int) + 1) = ((a + 1 : Nat) : Int) := by rw [wrapI (by omega) (by omega)]; rfl
    simp only [st33, lp33_0, subC, atC, Tryd.f33, an33, g0, T3, T4, T39, T42, T102, EL, List.replicate_succ, stepD, accs, accP, accW, simpleOp, isAl, isExt, flipD, D.fresh1, D.row, D.plain, D.plain.plainL, St.close, St.close1, St.borrow, retV, resV, resL, outCL, outC, outL, outD, wantedV, opV, An.mid, thawV, D.plainU, prune, envOf, get, put, eval, evalT, nz, argsV, capsV, ofV, binV, binV.aggV, unV, intV, eqOp, isConst, natV, optV, loadV, loadC, storeV, setC, St.at_, partV, partTy, indexAddrV, fieldAddrV, sliceV, sliceV.rowSl, sliceV.strSl, bounds, cutP, builtinV, lenV, maxL, maxV, appendV, St.elems, roomy, rowOf, rowS, isStr, esz, tdOf, convV, buildV, fillV, partsV, okParts, fillL, D.whole, D.demoteC, D.demote, demoteL, D.global, D.flat, D.leaf, D.cells, TI.agg, TD.rowish, callOpV, moveL, CC, keepB, St.borrowL, St.borrow, D.isLsl, adoptR, adoptC, adoptCL, adoptL, adopt, List.toArray, Array.toList, Nat.reduceEqDiff, Nat.reduceAdd, Nat.reduceSub, Nat.reduceMul, Nat.reduceLeDiff, Nat.reduceLT, reduceIte, reduceCtorEq, forall_const, imp_self, Int.reduceNeg, Int.reduceLT, Int.reduceLE, Int.reduceGT, Int.reduceGE, Int.reduceAdd, Int.reduceSub, Int.reduceMul, Int.reduceToNat, Int.reduceEq, ne_eq, eq_self]
    generalize hr : loopC T _ C _ _ = r
    obtain ⟨x, st', rfl, hx⟩ := nest hr (loop33_1 hC B m hm a h _ rfl) rfl
    clear hr
    rcases hx with ⟨rfl, hn, ρ, rfl, h1, h2⟩ | ⟨rfl, ⟨b, hb, hbd⟩, ρ, L, rfl, h1⟩
    · left
      refine ⟨a + 1, ?_, ⟨by omega, fun i k hi hk => ?_⟩, by omega⟩
      · simp only [h1, h2, w1, T3, T4, T39, T42, T102, EL, List.replicate_succ, stepD, accs, accP, accW, simpleOp, isAl, isExt, flipD, D.fresh1, D.row, D.plain, D.plain.plainL, St.close, St.close1, St.borrow, retV, resV, resL, outCL, outC, outL, outD, wantedV, opV, An.mid, thawV, D.plainU, prune, envOf, get, put, eval, evalT, nz, argsV, capsV, ofV, binV, binV.aggV, unV, intV, eqOp, isConst, natV, optV, loadV, loadC, storeV, setC, St.at_, partV, partTy, indexAddrV, fieldAddrV, sliceV, sliceV.rowSl, sliceV.strSl, bounds, cutP, builtinV, lenV, maxL, maxV, appendV, St.elems, roomy, rowOf, rowS, isStr, esz, tdOf, convV, buildV, fillV, partsV, okParts, fillL, D.whole, D.demoteC, D.demote, demoteL, D.global, D.flat, D.leaf, D.cells, TI.agg, TD.rowish, callOpV, moveL, CC, keepB, St.borrowL, St.borrow, D.isLsl, adoptR, adoptC, adoptCL, adoptL, adopt, List.toArray, Array.toList, Nat.reduceEqDiff, Nat.reduceAdd, Nat.reduceSub, Nat.reduceMul, Nat.reduceLeDiff, Nat.reduceLT, reduceIte, reduceCtorEq, forall_const, imp_self, Int.reduceNeg, Int.reduceLT, Int.reduceLE, Int.reduceGT, Int.reduceGE, Int.reduceAdd, Int.reduceSub, Int.reduceMul, Int.reduceToNat, Int.reduceEq, ne_eq, eq_self]
        refine ⟨_, rfl, ?_⟩
        show an33.at_ (some 2) _ = _
        simp only [an33, ren_map, toks_map, boxes_map, st33, h1, h2, AL, An.at_, tidyV, tidyW, tidyB, tidyT, sift, envBoxes, envToks, conToks, D.toks, D.tok1, toksL, D.boxes, D.box1, boxesL, memN, posN, renE, D.ren, D.ren1, renL, renB, St.content, St.boxOk, St.tokOk, trues, T3, T4, T39, T42, T102, EL, List.replicate_succ, stepD, accs, accP, accW, simpleOp, isAl, isExt, flipD, D.fresh1, D.row, D.plain, D.plain.plainL, St.close, St.close1, St.borrow, retV, resV, resL, outCL, outC, outL, outD, wantedV, opV, An.mid, thawV, D.plainU, prune, envOf, get, put, eval, evalT, nz, argsV, capsV, ofV, binV, binV.aggV, unV, intV, eqOp, isConst, natV, optV, loadV, loadC, storeV, setC, St.at_, partV, partTy, indexAddrV, fieldAddrV, sliceV, sliceV.rowSl, sliceV.strSl, bounds, cutP, builtinV, lenV, maxL, maxV, appendV, St.elems, roomy, rowOf, rowS, isStr, esz, tdOf, convV, buildV, fillV, partsV, okParts, fillL, D.whole, D.demoteC, D.demote, demoteL, D.global, D.flat, D.leaf, D.cells, TI.agg, TD.rowish, callOpV, moveL, CC, keepB, St.borrowL, St.borrow, D.isLsl, adoptR, adoptC, adoptCL, adoptL, adopt, List.toArray, Array.toList, Nat.reduceEqDiff, Nat.reduceAdd, Nat.reduceSub, Nat.reduceMul, Nat.reduceLeDiff, Nat.reduceLT, reduceIte, reduceCtorEq, forall_const, imp_self, Int.reduceNeg, Int.reduceLT, Int.reduceLE, Int.reduceGT, Int.reduceGE, Int.reduceAdd, Int.reduceSub, Int.reduceMul, Int.reduceToNat, Int.reduceEq, ne_eq, eq_self]
      · rcases Nat.lt_or_ge i a with h3 | h3
        · exact hI i k h3 hk
        · obtain rfl : i = a := by omega
          exact hn k hk
    · right
      simp only [h1, T3, T4, T39, T42, T102, EL, List.replicate_succ, stepD, accs, accP, accW, simpleOp, isAl, isExt, flipD, D.fresh1, D.row, D.plain, D.plain.plainL, St.close, St.close1, St.borrow, retV, resV, resL, outCL, outC, outL, outD, wantedV, opV, An.mid, thawV, D.plainU, prune, envOf, get, put, eval, evalT, nz, argsV, capsV, ofV, binV, binV.aggV, unV, intV, eqOp, isConst, natV, optV, loadV, loadC, storeV, setC, St.at_, partV, partTy, indexAddrV, fieldAddrV, sliceV, sliceV.rowSl, sliceV.strSl, bounds, cutP, builtinV, lenV, maxL, maxV, appendV, St.elems, roomy, rowOf, rowS, isStr, esz, tdOf, convV, buildV, fillV, partsV, okParts, fillL, D.whole, D.demoteC, D.demote, demoteL, D.global, D.flat, D.leaf, D.cells, TI.agg, TD.rowish, callOpV, moveL, CC, keepB, St.borrowL, St.borrow, D.isLsl, adoptR, adoptC, adoptCL, adoptL, adopt, List.toArray, Array.toList, Nat.reduceEqDiff, Nat.reduceAdd, Nat.reduceSub, Nat.reduceMul, Nat.reduceLeDiff, Nat.reduceLT, reduceIte, reduceCtorEq, forall_const, imp_self, Int.reduceNeg, Int.reduceLT, Int.reduceLE, Int.reduceGT, Int.reduceGE, Int.reduceAdd, Int.reduceSub, Int.reduceMul, Int.reduceToNat, Int.reduceEq, ne_eq, eq_self]
      exact ⟨_, _, rfl, by simp, _, _, rfl, .inr ⟨rfl, mayM_f.2 (fun hm => may_bad.1 hm a b h hb hbd), h1⟩⟩
  · right
    obtain rfl : a = 16 := by omega
    have g0 : ¬ ((16 : Nat) : Int) < 16 := by omega
    simp only [st33, lp33_0, subC, atC, Tryd.f33, an33, g0, T3, T4, T39, T42, T102, EL, List.replicate_succ, stepD, accs, accP, accW, simpleOp, isAl, isExt, flipD, D.fresh1, D.row, D.plain, D.plain.plainL, St.close, St.close1, St.borrow, retV, resV, resL, outCL, outC, outL, outD, wantedV, opV, An.mid, thawV, D.plainU, prune, envOf, get, put, eval, evalT, nz, argsV, capsV, ofV, binV, binV.aggV, unV, intV, eqOp, isConst, natV, optV, loadV, loadC, storeV, setC, St.at_, partV, partTy, indexAddrV, fieldAddrV, sliceV, sliceV.rowSl, sliceV.strSl, bounds, cutP, builtinV, lenV, maxL, maxV, appendV, St.elems, roomy, rowOf, rowS, isStr, esz, tdOf, convV, buildV, fillV, partsV, okParts, fillL, D.whole, D.demoteC, D.demote, demoteL, D.global, D.flat, D.leaf, D.cells, TI.agg, TD.rowish, callOpV, moveL, CC, keepB, St.borrowL, St.borrow, D.isLsl, adoptR, adoptC, adoptCL, adoptL, adopt, List.toArray, Array.toList, Nat.reduceEqDiff, Nat.reduceAdd, Nat.reduceSub, Nat.reduceMul, Nat.reduceLeDiff, Nat.reduceLT, reduceIte, reduceCtorEq, forall_const, imp_self, Int.reduceNeg, Int.reduceLT, Int.reduceLE, Int.reduceGT, Int.reduceGE, Int.reduceAdd, Int.reduceSub, Int.reduceMul, Int.reduceToNat, Int.reduceEq, ne_eq, eq_self]
    exact ⟨_, _, rfl, by simp, _, _, rfl, .inl ⟨rfl, mayM_t.2 (may_bad.2 fun i k hi hk => hI i k hi hk)⟩⟩

set_option maxRecDepth 10000 in
theorem run33 (hC : Lib31 C) (m : Nat → Nat) (hm : Bnd m) (B : Hp) : runV T C fi33 [mD m] B = some (errD (if mayM m = true then 0 else 1), B) := by
  rw [e_run _ _ _ rfl]
  simp only [fi33, Tryd.f33, an33, AL, T3, T4, T39, T42, T102, EL, List.replicate_succ, stepD, accs, accP, accW, simpleOp, isAl, isExt, flipD, D.fresh1, D.row, D.plain, D.plain.plainL, St.close, St.close1, St.borrow, retV, resV, resL, outCL, outC, outL, outD, wantedV, opV, An.mid, thawV, D.plainU, prune, envOf, get, put, eval, evalT, nz, argsV, capsV, ofV, binV, binV.aggV, unV, intV, eqOp, isConst, natV, optV, loadV, loadC, storeV, setC, St.at_, partV, partTy, indexAddrV, fieldAddrV, sliceV, sliceV.rowSl, sliceV.strSl, bounds, cutP, builtinV, lenV, maxL, maxV, appendV, St.elems, roomy, rowOf, rowS, isStr, esz, tdOf, convV, buildV, fillV, partsV, okParts, fillL, D.whole, D.demoteC, D.demote, demoteL, D.global, D.flat, D.leaf, D.cells, TI.agg, TD.rowish, callOpV, moveL, CC, keepB, St.borrowL, St.borrow, D.isLsl, adoptR, adoptC, adoptCL, adoptL, adopt, List.toArray, Array.toList, Nat.reduceEqDiff, Nat.reduceAdd, Nat.reduceSub, Nat.reduceMul, Nat.reduceLeDiff, Nat.reduceLT, reduceIte, reduceCtorEq, forall_const, imp_self, Int.reduceNeg, Int.reduceLT, Int.reduceLE, Int.reduceGT, Int.reduceGE, Int.reduceAdd, Int.reduceSub, Int.reduceMul, Int.reduceToNat, Int.reduceEq, ne_eq, eq_self]
  refine' in_loop (c' := lp33_0) (fin T _ _ _) ?h rfl ?q
  case h => exact loop33 hC B m hm _ rfl
  rintro x st' ⟨ρ, L, rfl, ⟨rfl, hx⟩ | ⟨rfl, hx, hg⟩⟩
  · simp only [hx, T3, T4, T39, T42, T102, EL, List.replicate_succ, stepD, accs, accP, accW, simpleOp, isAl, isExt, flipD, D.fresh1, D.row, D.plain, D.plain.plainL, St.close, St.close1, St.borrow, retV, resV, resL, outCL, outC, outL, outD, wantedV, opV, An.mid, thawV, D.plainU, prune, envOf, get, put, eval, evalT, nz, argsV, capsV, ofV, binV, binV.aggV, unV, intV, eqOp, isConst, natV, optV, loadV, loadC, storeV, setC, St.at_, partV, partTy, indexAddrV, fieldAddrV, sliceV, sliceV.rowSl, sliceV.strSl, bounds, cutP, builtinV, lenV, maxL, maxV, appendV, St.elems, roomy, rowOf, rowS, isStr, esz, tdOf, convV, buildV, fillV, partsV, okParts, fillL, D.whole, D.demoteC, D.demote, demoteL, D.global, D.flat, D.leaf, D.cells, TI.agg, TD.rowish, callOpV, moveL, CC, keepB, St.borrowL, St.borrow, D.isLsl, adoptR, adoptC, adoptCL, adoptL, adopt, List.toArray, Array.toList, Nat.reduceEqDiff, Nat.reduceAdd, Nat.reduceSub, Nat.reduceMul, Nat.reduceLeDiff, Nat.reduceLT, reduceIte, reduceCtorEq, forall_const, imp_self, Int.reduceNeg, Int.reduceLT, Int.reduceLE, Int.reduceGT, Int.reduceGE, Int.reduceAdd, Int.reduceSub, Int.reduceMul, Int.reduceToNat, Int.reduceEq, ne_eq, eq_self]
    rfl
  · simp only [hx, hg, T3, T4, T39, T42, T102, EL, List.replicate_succ, stepD, accs, accP, accW, simpleOp, isAl, isExt, flipD, D.fresh1, D.row, D.plain, D.plain.plainL, St.close, St.close1, St.borrow, retV, resV, resL, outCL, outC, outL, outD, wantedV, opV, An.mid, thawV, D.plainU, prune, envOf, get, put, eval, evalT, nz, argsV, capsV, ofV, binV, binV.aggV, unV, intV, eqOp, isConst, natV, optV, loadV, loadC, storeV, setC, St.at_, partV, partTy, indexAddrV, fieldAddrV, sliceV, sliceV.rowSl, sliceV.strSl, bounds, cutP, builtinV, lenV, maxL, maxV, appendV, St.elems, roomy, rowOf, rowS, isStr, esz, tdOf, convV, buildV, fillV, partsV, okParts, fillL, D.whole, D.demoteC, D.demote, demoteL, D.global, D.flat, D.leaf, D.cells, TI.agg, TD.rowish, callOpV, moveL, CC, keepB, St.borrowL, St.borrow, D.isLsl, adoptR, adoptC, adoptCL, adoptL, adopt, List.toArray, Array.toList, Nat.reduceEqDiff, Nat.reduceAdd, Nat.reduceSub, Nat.reduceMul, Nat.reduceLeDiff, Nat.reduceLT, reduceIte, reduceCtorEq, forall_const, imp_self, Int.reduceNeg, Int.reduceLT, Int.reduceLE, Int.reduceGT, Int.reduceGE, Int.reduceAdd, Int.reduceSub, Int.reduceMul, Int.reduceToNat, Int.reduceEq, ne_eq, eq_self]
    rfl

theorem ck_t (hC : Lib31 C) {m : Nat → Nat} (hm : Bnd m) (h : mayM m = true) (B : Hp) : C 33 [.agg (nums .u16 16 m)] B = some (.nili, B) := by
  have := hC.f33 _ _ _ (run33 hC m hm B)
  rw [h] at this; exact this
theorem ck_f (hC : Lib31 C) {m : Nat → Nat} (hm : Bnd m) (h : mayM m = false) (B : Hp) : C 33 [.agg (nums .u16 16 m)] B = some (.iface 102 (.int .i64 1), B) := by
  have := hC.f33 _ _ _ (run33 hC m hm B)
  rw [h] at this; exact this

/-! ### Two places -/
noncomputable def twoS (m : Nat → Nat) (a b : Int) : Bool := mayM m && plc a && plc b && !decide (a = b)
theorem twoS_t {m : Nat → Nat} {a b : Int} (h : twoS m a b = true) : mayM m = true ∧ ∃ i j : Nat, a = i ∧ b = j ∧ i < 16 ∧ j < 16 ∧ i ≠ j := by
  simp only [twoS, Bool.and_eq_true, Bool.not_eq_true', decide_eq_false_iff_not] at h
  obtain ⟨i, rfl, hi⟩ := plc_t h.1.1.2
  obtain ⟨j, rfl, hj⟩ := plc_t h.1.2
  exact ⟨h.1.1.1, i, j, rfl, rfl, hi, hj, fun e => h.2 (by rw [e])⟩

set_option maxRecDepth 10000 in
theorem run65 (hC : Lib31 C) (m : Nat → Nat) (hm : Bnd m) (a b : Int) (B : Hp) : runV T C fi65 [mD m, .int .i64 a, .int .i64 b] B = some (errD (if twoS m a b = true then 0 else 1), B) := by
  rw [e_run _ _ _ rfl]
  unfold twoS
  have p1 := c69 hC a
  have p2 := c69 hC b
  cases e1 : mayM m
  · have c1 := ck_f hC hm e1
    simp only [fi65, Tryd.f65, an65, c1, AL, T3, T4, T24, T39, T42, T102, EL, List.replicate_succ, stepD, accs, accP, accW, simpleOp, isAl, isExt, flipD, D.fresh1, D.row, D.plain, D.plain.plainL, St.close, St.close1, St.borrow, retV, resV, resL, outCL, outC, outL, outD, wantedV, opV, An.mid, thawV, D.plainU, prune, envOf, get, put, eval, evalT, nz, argsV, capsV, ofV, binV, binV.aggV, unV, intV, eqOp, isConst, natV, optV, loadV, loadC, storeV, setC, St.at_, partV, partTy, indexAddrV, fieldAddrV, sliceV, sliceV.rowSl, sliceV.strSl, bounds, cutP, builtinV, lenV, maxL, maxV, appendV, St.elems, roomy, rowOf, rowS, isStr, esz, tdOf, convV, buildV, fillV, partsV, okParts, fillL, D.whole, D.demoteC, D.demote, demoteL, D.global, D.flat, D.leaf, D.cells, TI.agg, TD.rowish, callOpV, moveL, CC, keepB, St.borrowL, St.borrow, D.isLsl, adoptR, adoptC, adoptCL, adoptL, adopt, List.toArray, Array.toList, Nat.reduceEqDiff, Nat.reduceAdd, Nat.reduceSub, Nat.reduceMul, Nat.reduceLeDiff, Nat.reduceLT, reduceIte, reduceCtorEq, forall_const, imp_self, Int.reduceNeg, Int.reduceLT, Int.reduceLE, Int.reduceGT, Int.reduceGE, Int.reduceAdd, Int.reduceSub, Int.reduceMul, Int.reduceToNat, Int.reduceEq, ne_eq, eq_self]
    rfl
  · have c1 := ck_t hC hm e1
    cases e2 : plc a <;> rw [e2] at p1
    · simp only [fi65, Tryd.f65, an65, c1, p1, AL, T3, T4, T24, T39, T42, T102, EL, List.replicate_succ, stepD, accs, accP, accW, simpleOp, isAl, isExt, flipD, D.fresh1, D.row, D.plain, D.plain.plainL, St.close, St.close1, St.borrow, retV, resV, resL, outCL, outC, outL, outD, wantedV, opV, An.mid, thawV, D.plainU, prune, envOf, get, put, eval, evalT, nz, argsV, capsV, ofV, binV, binV.aggV, unV, intV, eqOp, isConst, natV, optV, loadV, loadC, storeV, setC, St.at_, partV, partTy, indexAddrV, fieldAddrV, sliceV, sliceV.rowSl, sliceV.strSl, bounds, cutP, builtinV, lenV, maxL, maxV, appendV, St.elems, roomy, rowOf, rowS, isStr, esz, tdOf, convV, buildV, fillV, partsV, okParts, fillL, D.whole, D.demoteC, D.demote, demoteL, D.global, D.flat, D.leaf, D.cells, TI.agg, TD.rowish, callOpV, moveL, CC, keepB, St.borrowL, St.borrow, D.isLsl, adoptR, adoptC, adoptCL, adoptL, adopt, List.toArray, Array.toList, Nat.reduceEqDiff, Nat.reduceAdd, Nat.reduceSub, Nat.reduceMul, Nat.reduceLeDiff, Nat.reduceLT, reduceIte, reduceCtorEq, forall_const, imp_self, Int.reduceNeg, Int.reduceLT, Int.reduceLE, Int.reduceGT, Int.reduceGE, Int.reduceAdd, Int.reduceSub, Int.reduceMul, Int.reduceToNat, Int.reduceEq, ne_eq, eq_self]
      rfl
    · cases e3 : plc b <;> rw [e3] at p2
      · simp only [fi65, Tryd.f65, an65, c1, p1, p2, AL, T3, T4, T24, T39, T42, T102, EL, List.replicate_succ, stepD, accs, accP, accW, simpleOp, isAl, isExt, flipD, D.fresh1, D.row, D.plain, D.plain.plainL, St.close, St.close1, St.borrow, retV, resV, resL, outCL, outC, outL, outD, wantedV, opV, An.mid, thawV, D.plainU, prune, envOf, get, put, eval, evalT, nz, argsV, capsV, ofV, binV, binV.aggV, unV, intV, eqOp, isConst, natV, optV, loadV, loadC, storeV, setC, St.at_, partV, partTy, indexAddrV, fieldAddrV, sliceV, sliceV.rowSl, sliceV.strSl, bounds, cutP, builtinV, lenV, maxL, maxV, appendV, St.elems, roomy, rowOf, rowS, isStr, esz, tdOf, convV, buildV, fillV, partsV, okParts, fillL, D.whole, D.demoteC, D.demote, demoteL, D.global, D.flat, D.leaf, D.cells, TI.agg, TD.rowish, callOpV, moveL, CC, keepB, St.borrowL, St.borrow, D.isLsl, adoptR, adoptC, adoptCL, adoptL, adopt, List.toArray, Array.toList, Nat.reduceEqDiff, Nat.reduceAdd, Nat.reduceSub, Nat.reduceMul, Nat.reduceLeDiff, Nat.reduceLT, reduceIte, reduceCtorEq, forall_const, imp_self, Int.reduceNeg, Int.reduceLT, Int.reduceLE, Int.reduceGT, Int.reduceGE, Int.reduceAdd, Int.reduceSub, Int.reduceMul, Int.reduceToNat, Int.reduceEq, ne_eq, eq_self]
        rfl
      · by_cases e4 : a = b
        · simp only [fi65, Tryd.f65, an65, c1, p1, p2, e4, AL, T3, T4, T24, T39, T42, T102, EL, List.replicate_succ, stepD, accs, accP, accW, simpleOp, isAl, isExt, flipD, D.fresh1, D.row, D.plain, D.plain.plainL, St.close, St.close1, St.borrow, retV, resV, resL, outCL, outC, outL, outD, wantedV, opV, An.mid, thawV, D.plainU, prune, envOf, get, put, eval, evalT, nz, argsV, capsV, ofV, binV, binV.aggV, unV, intV, eqOp, isConst, natV, optV, loadV, loadC, storeV, setC, St.at_, partV, partTy, indexAddrV, fieldAddrV, sliceV, sliceV.rowSl, sliceV.strSl, bounds, cutP, builtinV, lenV, maxL, maxV, appendV, St.elems, roomy, rowOf, rowS, isStr, esz, tdOf, convV, buildV, fillV, partsV, okParts, fillL, D.whole, D.demoteC, D.demote, demoteL, D.global, D.flat, D.leaf, D.cells, TI.agg, TD.rowish, callOpV, moveL, CC, keepB, St.borrowL, St.borrow, D.isLsl, adoptR, adoptC, adoptCL, adoptL, adopt, List.toArray, Array.toList, Nat.reduceEqDiff, Nat.reduceAdd, Nat.reduceSub, Nat.reduceMul, Nat.reduceLeDiff, Nat.reduceLT, reduceIte, reduceCtorEq, forall_const, imp_self, Int.reduceNeg, Int.reduceLT, Int.reduceLE, Int.reduceGT, Int.reduceGE, Int.reduceAdd, Int.reduceSub, Int.reduceMul, Int.reduceToNat, Int.reduceEq, ne_eq, eq_self]
          rfl
        · simp only [fi65, Tryd.f65, an65, c1, p1, p2, e4, AL, T3, T4, T24, T39, T42, T102, EL, List.replicate_succ, stepD, accs, accP, accW, simpleOp, isAl, isExt, flipD, D.fresh1, D.row, D.plain, D.plain.plainL, St.close, St.close1, St.borrow, retV, resV, resL, outCL, outC, outL, outD, wantedV, opV, An.mid, thawV, D.plainU, prune, envOf, get, put, eval, evalT, nz, argsV, capsV, ofV, binV, binV.aggV, unV, intV, eqOp, isConst, natV, optV, loadV, loadC, storeV, setC, St.at_, partV, partTy, indexAddrV, fieldAddrV, sliceV, sliceV.rowSl, sliceV.strSl, bounds, cutP, builtinV, lenV, maxL, maxV, appendV, St.elems, roomy, rowOf, rowS, isStr, esz, tdOf, convV, buildV, fillV, partsV, okParts, fillL, D.whole, D.demoteC, D.demote, demoteL, D.global, D.flat, D.leaf, D.cells, TI.agg, TD.rowish, callOpV, moveL, CC, keepB, St.borrowL, St.borrow, D.isLsl, adoptR, adoptC, adoptCL, adoptL, adopt, List.toArray, Array.toList, Nat.reduceEqDiff, Nat.reduceAdd, Nat.reduceSub, Nat.reduceMul, Nat.reduceLeDiff, Nat.reduceLT, reduceIte, reduceCtorEq, forall_const, imp_self, Int.reduceNeg, Int.reduceLT, Int.reduceLE, Int.reduceGT, Int.reduceGE, Int.reduceAdd, Int.reduceSub, Int.reduceMul, Int.reduceToNat, Int.reduceEq, ne_eq, eq_self]
          rfl
theorem tw_t (hC : Lib31 C) {m : Nat → Nat} (hm : Bnd m) {a b : Int} (h : twoS m a b = true) (B : Hp) : C 65 [.agg (nums .u16 16 m), .int .i64 a, .int .i64 b] B = some (.nili, B) := by
  have := hC.f65 _ _ _ (run65 hC m hm a b B)
  rw [h] at this; exact this
theorem tw_f (hC : Lib31 C) {m : Nat → Nat} (hm : Bnd m) {a b : Int} (h : twoS m a b = false) (B : Hp) : C 65 [.agg (nums .u16 16 m), .int .i64 a, .int .i64 b] B = some (.iface 102 (.int .i64 1), B) := by
  have := hC.f65 _ _ _ (run65 hC m hm a b B)
  rw [h] at this; exact this
theorem two_n {m : Nat → Nat} {i j : Nat} (h : mayM m = true) (hi : i < 16) (hj : j < 16) (hij : i ≠ j) : twoS m i j = true := by
  have : ¬ (i : Int) = j := by omega
  simp [twoS, h, plc_n hi, plc_n hj, this]

abbrev zeroM : Nat → Nat := fun _ => 0

set_option maxRecDepth 10000 in
theorem run24_f (hC : Lib31 C) {m : Nat → Nat} (hm : Bnd m) {a b : Int} (h : twoS m a b = false) (B : Hp) : runV T C fi24 [mD m, .int .i64 a, .int .i64 b] B = some (.tuple [mD zeroM, errD 1], B) := by
  rw [e_run _ _ _ rfl]
  have c1 := tw_f hC hm h
  simp only [fi24, Tryd.f24, an24, c1, AL, T24, T39, T42, EL, List.replicate_succ, stepD, accs, accP, accW, simpleOp, isAl, isExt, flipD, D.fresh1, D.row, D.plain, D.plain.plainL, St.close, St.close1, St.borrow, retV, resV, resL, outCL, outC, outL, outD, wantedV, opV, An.mid, thawV, D.plainU, prune, envOf, get, put, eval, evalT, nz, argsV, capsV, ofV, binV, binV.aggV, unV, intV, eqOp, isConst, natV, optV, loadV, loadC, storeV, setC, St.at_, partV, partTy, indexAddrV, fieldAddrV, sliceV, sliceV.rowSl, sliceV.strSl, bounds, cutP, builtinV, lenV, maxL, maxV, appendV, St.elems, roomy, rowOf, rowS, isStr, esz, tdOf, convV, buildV, fillV, partsV, okParts, fillL, D.whole, D.demoteC, D.demote, demoteL, D.global, D.flat, D.leaf, D.cells, TI.agg, TD.rowish, callOpV, moveL, CC, keepB, St.borrowL, St.borrow, D.isLsl, adoptR, adoptC, adoptCL, adoptL, adopt, List.toArray, Array.toList, Nat.reduceEqDiff, Nat.reduceAdd, Nat.reduceSub, Nat.reduceMul, Nat.reduceLeDiff, Nat.reduceLT, reduceIte, reduceCtorEq, forall_const, imp_self, Int.reduceNeg, Int.reduceLT, Int.reduceLE, Int.reduceGT, Int.reduceGE, Int.reduceAdd, Int.reduceSub, Int.reduceMul, Int.reduceToNat, Int.reduceEq, ne_eq, eq_self]
  rfl

theorem adn_bnd {m : Nat → Nat} {a x : Nat} (hm : Bnd m) (hx : x < 65536) : Bnd (updA m a x) := by
  intro i hi
  unfold updA
  split
  · exact hx
  · exact hm i hi

set_option maxRecDepth 10000 in
theorem run24_t (hC : Lib31 C) {m : Nat → Nat} (hm : Bnd m) {a b : Nat} (ha : a < 16) (hb : b < 16) (hab : a ≠ b) (h : mayM m = true) (B : Hp) : runV T C fi24 [mD m, .int .i64 a, .int .i64 b] B = some (.tuple [mD (opn m a b), .nili], B) := by
  rw [e_run _ _ _ rfl]
  have c1 := tw_t hC hm (two_n h ha hb hab)
  have n1 := nat0 a
  have n2 := nat0 b
  have c2 := c66 hC a ha
  have c3 := c66 hC b hb
  have g1 := nums_get (k := .u16) (m := m) ha
  have b1 := u16_or (hm a ha) (pow16 hb)
  have s1 := nums_set (k := .u16) (m := m) (x := m a ||| 2 ^ b) ha
  have g2 := nums_get (k := .u16) (m := updA m a (m a ||| 2 ^ b)) hb
  rw [updA_ne m _ (fun e => hab e.symm)] at g2
  have b2 := u16_or (hm b hb) (pow16 ha)
  have s2 := nums_set (k := .u16) (m := updA m a (m a ||| 2 ^ b)) (x := m b ||| 2 ^ a) hb
  simp only [fi24, Tryd.f24, an24, c1, c2, c3, n1, n2, ha, hb, g1, g2, b1, b2, s1, s2, AL, T24, T39, T42, EL, List.replicate_succ, stepD, accs, accP, accW, simpleOp, isAl, isExt, flipD, D.fresh1, D.row, D.plain, D.plain.plainL, St.close, St.close1, St.borrow, retV, resV, resL, outCL, outC, outL, outD, wantedV, opV, An.mid, thawV, D.plainU, prune, envOf, get, put, eval, evalT, nz, argsV, capsV, ofV, binV, binV.aggV, unV, intV, eqOp, isConst, natV, optV, loadV, loadC, storeV, St.at_, partV, partTy, indexAddrV, fieldAddrV, sliceV, sliceV.rowSl, sliceV.strSl, bounds, cutP, builtinV, lenV, maxL, maxV, appendV, St.elems, roomy, rowOf, rowS, isStr, esz, tdOf, convV, buildV, fillV, partsV, okParts, fillL, D.whole, D.demoteC, D.demote, demoteL, D.global, D.flat, D.leaf, D.cells, TI.agg, TD.rowish, callOpV, moveL, CC, keepB, St.borrowL, St.borrow, D.isLsl, adoptR, adoptC, adoptCL, adoptL, adopt, List.toArray, Array.toList, Nat.reduceEqDiff, Nat.reduceAdd, Nat.reduceSub, Nat.reduceMul, Nat.reduceLeDiff, Nat.reduceLT, reduceIte, reduceCtorEq, forall_const, imp_self, Int.reduceNeg, Int.reduceLT, Int.reduceLE, Int.reduceGT, Int.reduceGE, Int.reduceAdd, Int.reduceSub, Int.reduceMul, Int.reduceToNat, Int.reduceEq, ne_eq, eq_self]
  rfl

end Go.Proofs.YtbbbhalmlboapaaDoor.V
