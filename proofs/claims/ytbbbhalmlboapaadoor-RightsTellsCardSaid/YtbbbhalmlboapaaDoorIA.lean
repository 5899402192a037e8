/-
Layer 1, for other layers: how many bits are set; the lowest, the highest.
-/
import Derived.Test.YtbbbhalmlboapaaDoorSA
namespace Go.Proofs.YtbbbhalmlboapaaDoor.V
open Go Go.RowKit
set_option linter.unusedSimpArgs false
set_option linter.unusedVariables false

/-! warren/ints.Ones -/
def an70 : An := ⟨fun | 2 => some [0, 3] | _ => .none, fun _ => 0, fun _ => false, fun _ => .none⟩
noncomputable def fi70 : FI := ⟨1, 13, Tryd.f70.body.getD .skip, Tryd.f70.results.toList, an70, false, false, false⟩
theorem ok70 : FnOk Tryd.prog 70 fi70 := ⟨⟨Tryd.f70, Tryd.func70, by kernel_rfl, rfl, rfl, rfl⟩, by decide, by kernel_rfl, fun h => by cases h⟩
noncomputable def lp70_0 : Code := subC [1, 1, 0, 0, 0] (Tryd.f70.body.getD .skip)   -- head 2 keep [0, 3]
/-! warren/ints.Lowest -/
def an63 : An := ⟨fun _ => .none, fun _ => 0, fun _ => false, fun _ => .none⟩
noncomputable def fi63 : FI := ⟨1, 8, Tryd.f63.body.getD .skip, Tryd.f63.results.toList, an63, false, false, false⟩
theorem ok63 : FnOk Tryd.prog 63 fi63 := ⟨⟨Tryd.f63, Tryd.func63, by kernel_rfl, rfl, rfl, rfl⟩, by decide, by kernel_rfl, fun h => by cases h⟩
/-! warren/ints.Highest -/
def an86 : An := ⟨fun | 3 => some [0, 3, 4] | _ => .none, fun _ => 0, fun _ => false, fun _ => .none⟩
noncomputable def fi86 : FI := ⟨1, 24, Tryd.f86.body.getD .skip, Tryd.f86.results.toList, an86, false, false, false⟩
theorem ok86 : FnOk Tryd.prog 86 fi86 := ⟨⟨Tryd.f86, Tryd.func86, by kernel_rfl, rfl, rfl, rfl⟩, by decide, by kernel_rfl, fun h => by cases h⟩
noncomputable def lp86_0 : Code := subC [1, 1, 0, 1, 0, 0] (Tryd.f86.body.getD .skip)   -- head 3 keep [0, 3, 4]
structure LibInt (C : Callees) : Prop where
  f70 : Has T C 70 fi70
  f63 : Has T C 63 fi63
  f86 : Has T C 86 fi86

theorem bitsN_half {u : Nat} (h : 0 < u) : bitsN u = bitsN (u / 2) + 1 := by
  rcases (by omega : u = 1 ∨ 2 ≤ u) with rfl | h2
  · rw [bitsN_one]; rfl
  · exact bitsN_div (s := 1) h2
theorem shr1 (v : Nat) : shrV .u64 (v : Int) 1 = ((v / 2 : Nat) : Int) := shr_nat .u64 v 1 (by decide)
theorem pow_split {b : Nat} (h : 1 ≤ b) : 2 ^ b = 2 * 2 ^ (b - 1) := by
  rw [← Nat.pow_succ', Nat.succ_eq_add_one, Nat.sub_add_cancel h]
theorem pow_lt {x : Nat} (h : x < 64) : 2 ^ x < 18446744073709551616 := Nat.lt_of_lt_of_le (Nat.pow_lt_pow_right (by decide) h) (Nat.le_refl _)
theorem and_mask (v b : Nat) : v &&& (2 ^ b - 1) = v % 2 ^ b := Nat.and_two_pow_sub_one_eq_mod v b
theorem or_mask (v b : Nat) : v ||| (2 ^ b - 1) = v / 2 ^ b * 2 ^ b + (2 ^ b - 1) := by
  have h1 : v / 2 ^ b * 2 ^ b + (2 ^ b - 1) = (v / 2 ^ b * 2 ^ b) ||| (2 ^ b - 1) := by
    rw [Nat.mul_comm, Nat.two_pow_add_eq_or_of_lt (by have := Nat.pow_pos (n := b) (show 0 < 2 by decide); omega)]
  rw [h1]
  apply Nat.eq_of_testBit_eq
  intro i
  rw [Nat.testBit_or, Nat.testBit_or, Nat.testBit_two_pow_sub_one, Nat.mul_comm, Nat.testBit_two_pow_mul, Nat.testBit_div_two_pow]
  by_cases h : i < b
  · simp [h]
  · have h2 : b ≤ i := by omega
    simp [h, h2]
theorem u64_and (m n : Nat) (hm : m < 18446744073709551616) (hn : n < 18446744073709551616) : bitsV .and .u64 (m : Int) (n : Int) = ((m &&& n : Nat) : Int) := bits_nat (k := .u64) rfl .and m n hm hn
theorem u64_or (m n : Nat) (hm : m < 18446744073709551616) (hn : n < 18446744073709551616) : bitsV .or .u64 (m : Int) (n : Int) = ((m ||| n : Nat) : Int) := bits_nat (k := .u64) rfl .or m n hm hn
theorem shl_one {b : Nat} (h : b < 64) : shlV .u64 1 (b : Int) = ((2 ^ b : Nat) : Int) := by
  have h1 : min ((b : Nat) : Int).toNat IntKind.u64.bits = b := by show min _ 64 = _; omega
  rw [shlV, h1, Int.one_mul]
  have h2 : (2 : Int) ^ b = ((2 ^ b : Nat) : Int) := by rw [Int.natCast_pow]; rfl
  rw [h2, wrap_u64 (Int.natCast_nonneg _) (Int.ofNat_lt.2 (pow_lt h))]

/-! ### The plain laws -/
theorem bin_ind {p : Nat → Prop} (h0 : p 0) (h : ∀ v, 0 < v → p (v / 2) → p v) (v : Nat) : p v := by
  induction v using Nat.strongRecOn with
  | _ v ih =>
    rcases Nat.eq_zero_or_pos v with rfl | hv
    · exact h0
    · exact h v hv (ih _ (Nat.div_lt_self hv (by omega)))

def onesN (v : Nat) : Nat := if h : v = 0 then 0 else v % 2 + onesN (v / 2)
termination_by v
decreasing_by exact Nat.div_lt_self (Nat.pos_of_ne_zero h) (by omega)

theorem ones_zero : onesN 0 = 0 := by unfold onesN; rfl
theorem ones_step (v : Nat) : onesN v = v % 2 + onesN (v / 2) := by
  by_cases h : v = 0
  · subst h; simp [ones_zero]
  · rw [onesN]; simp [h]

def ctzN (v : Nat) : Nat := if h : v = 0 ∨ v % 2 = 1 then 0 else ctzN (v / 2) + 1
termination_by v
decreasing_by exact Nat.div_lt_self (Nat.pos_of_ne_zero (fun e => h (.inl e))) (by omega)

theorem ctz_odd {v : Nat} (h : v % 2 = 1) : ctzN v = 0 := by rw [ctzN]; simp [h]
theorem ctz_even {v : Nat} (h0 : 0 < v) (h : v % 2 = 0) : ctzN v = ctzN (v / 2) + 1 := by
  rw [ctzN]; rw [dif_neg (by omega)]

theorem ones_le : ∀ v, onesN v ≤ bitsN v := bin_ind (by simp [ones_zero]) (fun v hv ih => by rw [ones_step, bitsN_half hv]; omega)

theorem ones_pos : ∀ v, 0 < v → 0 < onesN v := bin_ind (p := fun v => 0 < v → 0 < onesN v) (fun h => by omega) (fun v hv ih _ => by
  rw [ones_step]
  rcases Nat.eq_zero_or_pos (v / 2) with h | h
  · omega
  · have := ih h; omega)

theorem ctz_lt : ∀ v, 0 < v → ctzN v < bitsN v := bin_ind (p := fun v => 0 < v → ctzN v < bitsN v) (fun h => by omega) (fun v hv ih _ => by
  rw [bitsN_half hv]
  rcases Nat.mod_two_eq_zero_or_one v with h | h
  · rw [ctz_even hv h]; have := ih (by omega); omega
  · rw [ctz_odd h]; omega)

/-- The bits lie between the lowest and the highest. -/
theorem ones_span : ∀ v, onesN v + ctzN v ≤ bitsN v := bin_ind (by rw [ones_zero, bitsN_zero, ctzN]; simp) (fun v hv ih => by
  rw [ones_step, bitsN_half hv]
  rcases Nat.mod_two_eq_zero_or_one v with h | h
  · rw [ctz_even hv h]; omega
  · rw [ctz_odd h]; have := ones_le (v / 2); omega)

theorem and_div2 (a b : Nat) : (a &&& b) / 2 = a / 2 &&& b / 2 := by
  apply Nat.eq_of_testBit_eq
  intro i
  rw [← Nat.testBit_add_one, Nat.testBit_and, Nat.testBit_and, Nat.testBit_add_one, Nat.testBit_add_one]

theorem and_mod2 (a b : Nat) : (a &&& b) % 2 = if a % 2 = 1 ∧ b % 2 = 1 then 1 else 0 := by
  have h := Nat.testBit_and a b 0
  simp only [Nat.testBit_zero, ← Bool.decide_and] at h
  have h := decide_eq_decide.1 h
  split
  · rename_i h1; exact h.2 h1
  · rename_i h1; have := mt h.1 h1; omega

theorem ones_less : ∀ v, 0 < v → onesN (v &&& (v - 1)) + 1 = onesN v := bin_ind (p := fun v => 0 < v → onesN (v &&& (v - 1)) + 1 = onesN v) (fun h => by omega) (fun v hv ih _ => by
  rw [ones_step, ones_step v, and_div2, and_mod2]
  rcases Nat.mod_two_eq_zero_or_one v with h | h
  · have h2 : (v - 1) / 2 = v / 2 - 1 := by omega
    rw [h2, if_neg (by omega), h]
    have := ih (by omega); omega
  · have h2 : (v - 1) / 2 = v / 2 := by omega
    rw [h2, Nat.and_self, if_neg (by omega), h]; omega)

theorem and_le_left (v : Nat) (h : 0 < v) : v &&& (v - 1) < v := by
  have := Nat.and_le_right (n := v) (m := v - 1); omega

theorem and_compl : ∀ (w u : Nat), u < 2 ^ w → u &&& (2 ^ w - 1 - u) = 0 := by
  intro w
  induction w with
  | zero => intro u h; simp at h; subst h; rfl
  | succ w ih =>
    intro u h
    rw [Nat.pow_succ] at h ⊢
    have h1 : (2 ^ w * 2 - 1 - u) / 2 = 2 ^ w - 1 - u / 2 := by omega
    have h2 : (u &&& (2 ^ w * 2 - 1 - u)) / 2 = 0 := by rw [and_div2, h1]; exact ih _ (by omega)
    have h3 := and_mod2 u (2 ^ w * 2 - 1 - u)
    rw [if_neg (by omega)] at h3
    omega

/-- Its lowest bit alone. -/
theorem low_bit : ∀ (w v : Nat), 0 < v → v < 2 ^ w → v &&& (2 ^ w - v) = 2 ^ ctzN v := by
  intro w
  induction w with
  | zero => intro v h0 h; simp at h; omega
  | succ w ih =>
    intro v h0 h
    rw [Nat.pow_succ] at h ⊢
    rcases Nat.mod_two_eq_zero_or_one v with hm | hm
    · have h1 : (2 ^ w * 2 - v) / 2 = 2 ^ w - v / 2 := by omega
      have h2 : (v &&& (2 ^ w * 2 - v)) / 2 = 2 ^ ctzN (v / 2) := by rw [and_div2, h1]; exact ih _ (by omega) (by omega)
      have h3 := and_mod2 v (2 ^ w * 2 - v)
      rw [if_neg (by omega)] at h3
      rw [ctz_even h0 hm, Nat.pow_succ]; omega
    · have h1 : (2 ^ w * 2 - v) / 2 = 2 ^ w - 1 - v / 2 := by omega
      have h2 : (v &&& (2 ^ w * 2 - v)) / 2 = 0 := by rw [and_div2, h1]; exact and_compl w _ (by omega)
      have h3 := and_mod2 v (2 ^ w * 2 - v)
      rw [if_pos (by omega)] at h3
      rw [ctz_odd hm]; omega

theorem bitsN_pow (k : Nat) : bitsN (2 ^ k) = k + 1 := by
  induction k with
  | zero => exact bitsN_one
  | succ k ih =>
    rw [bitsN_half (Nat.pow_pos (by decide)), Nat.pow_succ, Nat.mul_div_cancel _ (by decide), ih]

theorem ctz_pow_le : ∀ v, 0 < v → 2 ^ ctzN v ≤ v := bin_ind (p := fun v => 0 < v → 2 ^ ctzN v ≤ v) (fun h => by omega) (fun v hv ih _ => by
  rcases Nat.mod_two_eq_zero_or_one v with h | h
  · rw [ctz_even hv h, Nat.pow_succ]; have := ih (by omega); omega
  · rw [ctz_odd h]; omega)

/-- Without its lowest bit. -/
theorem ones_drop : ∀ v, 0 < v → onesN (v - 2 ^ ctzN v) + 1 = onesN v := bin_ind (p := fun v => 0 < v → onesN (v - 2 ^ ctzN v) + 1 = onesN v) (fun h => by omega) (fun v hv ih _ => by
  rw [ones_step, ones_step v]
  rcases Nat.mod_two_eq_zero_or_one v with h | h
  · rw [ctz_even hv h, Nat.pow_succ]
    have h1 : (v - 2 ^ ctzN (v / 2) * 2) / 2 = v / 2 - 2 ^ ctzN (v / 2) := by omega
    rw [h1, h]
    have := ih (by omega); omega
  · rw [ctz_odd h]
    have h1 : (v - 2 ^ 0) / 2 = v / 2 := by omega
    rw [h1]; omega)

/-- Its highest bit alone. -/
theorem high_bit {v : Nat} (h : 0 < v) : v / 2 ^ (bitsN v - 1) = 1 := by
  have h0 : 0 < bitsN v := by have := ctz_lt v h; omega
  have h1 := (bitsN_le v (bitsN v)).1 (Nat.le_refl _)
  have h2 : ¬ v < 2 ^ (bitsN v - 1) := fun hlt => by have := (bitsN_le v (bitsN v - 1)).2 hlt; omega
  rw [pow_split h0] at h1
  have hp : 0 < 2 ^ (bitsN v - 1) := Nat.pow_pos (by decide)
  generalize 2 ^ (bitsN v - 1) = p at h1 h2 hp ⊢
  exact Nat.div_eq_of_lt_le (by omega) (by omega)

/-! ### Ones -/
def st70 (B : Hp) (x : Nat × Nat) : St := ⟨[(0, .int .u64 x.1), (3, .int .i64 x.2)], [], [], B⟩

set_option maxRecDepth 10000 in
theorem loop70 (C : Callees) (B : Hp) (v : Nat) (hv : v < 18446744073709551616) (st : St) (hst : an70.at_ (some 2) st = st70 B (v, 0)) :
    ∃ x st', loopC T an70 C lp70_0 st = some (x, st') ∧ ∃ ρ, st' = ⟨ρ, [], [], B⟩ ∧ x = .exit 0 ∧ get ρ 3 = .int .i64 (onesN v : Nat) := by
  have hb := bitsN_64 hv
  have ho := ones_le v
  refine loop_rule (st70 B) (fun x => x.1 ≤ v ∧ x.2 + onesN x.1 = onesN v) (fun x => x.1) (fun x st' => ∃ ρ, st' = ⟨ρ, [], [], B⟩ ∧ x = .exit 0 ∧ get ρ 3 = .int .i64 (onesN v : Nat)) ?_ (v, 0) st hst ⟨Nat.le_refl _, by simp⟩
  rintro ⟨u, n⟩ ⟨h1, h2⟩
  simp only at h1 h2
  rcases Nat.eq_zero_or_pos u with rfl | hu
  · right
    rw [ones_zero] at h2
    have h : ((0 : Nat) : Int) = 0 := rfl
    simp only [st70, lp70_0, subC, atC, Tryd.f70, an70, h, T3, T66, EL, e_finWf, e_finWt, e_finMN, e_finMX, retM, meltV, tupV, D.asBox, D.row1, D.freeR, D.freeO, List.replicate_succ, stepD, accs, accP, accW, simpleOp, isAl, isExt, flipD, D.fresh1, D.row, D.plain, D.plain.plainL, St.close, St.close1, St.borrow, retV, resV, resL, outCL, outC, outL, outD, wantedV, opV, An.mid, thawV, St.settle, D.plainU, prune, envOf, get, put, eval, evalT, nz, argsV, capsV, ofV, binV, binV.aggV, unV, intV, eqOp, isConst, natV, optV, loadV, loadC, storeV, setC, St.at_, partV, partTy, indexAddrV, fieldAddrV, sliceV, sliceV.rowSl, sliceV.strSl, bounds, cutP, builtinV, lenV, maxL, maxV, appendV, St.elems, roomy, rowOf, rowS, isStr, esz, tdOf, convV, buildV, fillV, partsV, okParts, fillL, D.whole, D.demoteC, D.demote, demoteL, D.global, D.flat, D.leaf, D.cells, TI.agg, TD.rowish, callOpV, moveL, CC, keepB, St.borrowL, St.borrow, D.isLsl, adoptR, adoptC, adoptCL, adoptL, adopt, List.toArray, Array.toList, Nat.reduceEqDiff, Nat.reduceAdd, Nat.reduceSub, Nat.reduceMul, Nat.reduceLeDiff, Nat.reduceLT, reduceIte, reduceCtorEq, forall_const, imp_self, Int.reduceNeg, Int.reduceLT, Int.reduceLE, Int.reduceGT, Int.reduceGE, Int.reduceAdd, Int.reduceSub, Int.reduceMul, Int.reduceToNat, Int.reduceEq, ne_eq, eq_self]
    exact ⟨_, _, rfl, by simp, _, rfl, rfl, by rw [← h2]; rfl⟩
  · left
    have h : ¬ (u : Int) = 0 := by omega
    have h3 := ones_less u hu
    have h4 := and_le_left u hu
    have g1 : IntKind.u64.wrap ((u : Int) - 1) = ((u - 1 : Nat) : Int) := by rw [wrap_u64 (by omega) (by omega)]; omega
    have g2 := u64_and u (u - 1) (by omega) (by omega)
    have g3 : IntKind.i64.wrap ((n : Int) + 1) = ((n + 1 : Nat) : Int) := by rw [wrapI (by omega) (by omega)]; rfl
    refine ⟨(u &&& (u - 1), n + 1), ?_, ⟨by show u &&& (u - 1) ≤ v; omega, by show n + 1 + onesN (u &&& (u - 1)) = onesN v; omega⟩, h4⟩
    simp only [st70, lp70_0, subC, atC, Tryd.f70, an70, h, g1, g2, g3, T3, T66, EL, e_finWf, e_finWt, e_finMN, e_finMX, retM, meltV, tupV, D.asBox, D.row1, D.freeR, D.freeO, List.replicate_succ, stepD, accs, accP, accW, simpleOp, isAl, isExt, flipD, D.fresh1, D.row, D.plain, D.plain.plainL, St.close, St.close1, St.borrow, retV, resV, resL, outCL, outC, outL, outD, wantedV, opV, An.mid, thawV, St.settle, D.plainU, prune, envOf, get, put, eval, evalT, nz, argsV, capsV, ofV, binV, binV.aggV, unV, intV, eqOp, isConst, natV, optV, loadV, loadC, storeV, setC, St.at_, partV, partTy, indexAddrV, fieldAddrV, sliceV, sliceV.rowSl, sliceV.strSl, bounds, cutP, builtinV, lenV, maxL, maxV, appendV, St.elems, roomy, rowOf, rowS, isStr, esz, tdOf, convV, buildV, fillV, partsV, okParts, fillL, D.whole, D.demoteC, D.demote, demoteL, D.global, D.flat, D.leaf, D.cells, TI.agg, TD.rowish, callOpV, moveL, CC, keepB, St.borrowL, St.borrow, D.isLsl, adoptR, adoptC, adoptCL, adoptL, adopt, List.toArray, Array.toList, Nat.reduceEqDiff, Nat.reduceAdd, Nat.reduceSub, Nat.reduceMul, Nat.reduceLeDiff, Nat.reduceLT, reduceIte, reduceCtorEq, forall_const, imp_self, Int.reduceNeg, Int.reduceLT, Int.reduceLE, Int.reduceGT, Int.reduceGE, Int.reduceAdd, Int.reduceSub, Int.reduceMul, Int.reduceToNat, Int.reduceEq, ne_eq, eq_self]
    exact ⟨_, rfl, rfl⟩

set_option maxRecDepth 10000 in
theorem run70 (C : Callees) (v : Nat) (hv : v < 18446744073709551616) (B : Hp) : runV T C fi70 [.int .u64 v] B = some (.int .i64 (onesN v : Nat), B) := by
  rw [e_run _ _ _ rfl]
  simp only [fi70, Tryd.f70, an70, T3, T66, EL, e_finWf, e_finWt, e_finMN, e_finMX, retM, meltV, tupV, D.asBox, D.row1, D.freeR, D.freeO, List.replicate_succ, stepD, accs, accP, accW, simpleOp, isAl, isExt, flipD, D.fresh1, D.row, D.plain, D.plain.plainL, St.close, St.close1, St.borrow, retV, resV, resL, outCL, outC, outL, outD, wantedV, opV, An.mid, thawV, St.settle, D.plainU, prune, envOf, get, put, eval, evalT, nz, argsV, capsV, ofV, binV, binV.aggV, unV, intV, eqOp, isConst, natV, optV, loadV, loadC, storeV, setC, St.at_, partV, partTy, indexAddrV, fieldAddrV, sliceV, sliceV.rowSl, sliceV.strSl, bounds, cutP, builtinV, lenV, maxL, maxV, appendV, St.elems, roomy, rowOf, rowS, isStr, esz, tdOf, convV, buildV, fillV, partsV, okParts, fillL, D.whole, D.demoteC, D.demote, demoteL, D.global, D.flat, D.leaf, D.cells, TI.agg, TD.rowish, callOpV, moveL, CC, keepB, St.borrowL, St.borrow, D.isLsl, adoptR, adoptC, adoptCL, adoptL, adopt, List.toArray, Array.toList, Nat.reduceEqDiff, Nat.reduceAdd, Nat.reduceSub, Nat.reduceMul, Nat.reduceLeDiff, Nat.reduceLT, reduceIte, reduceCtorEq, forall_const, imp_self, Int.reduceNeg, Int.reduceLT, Int.reduceLE, Int.reduceGT, Int.reduceGE, Int.reduceAdd, Int.reduceSub, Int.reduceMul, Int.reduceToNat, Int.reduceEq, ne_eq, eq_self]
  refine' in_loop (c' := lp70_0) (fin T _ _ _) ?h rfl ?q
  case h => exact loop70 C B v hv _ rfl
  rintro x st' ⟨ρ, rfl, rfl, hg⟩
  simp only [hg, T3, T66, EL, e_finWf, e_finWt, e_finMN, e_finMX, retM, meltV, tupV, D.asBox, D.row1, D.freeR, D.freeO, List.replicate_succ, stepD, accs, accP, accW, simpleOp, isAl, isExt, flipD, D.fresh1, D.row, D.plain, D.plain.plainL, St.close, St.close1, St.borrow, retV, resV, resL, outCL, outC, outL, outD, wantedV, opV, An.mid, thawV, St.settle, D.plainU, prune, envOf, get, put, eval, evalT, nz, argsV, capsV, ofV, binV, binV.aggV, unV, intV, eqOp, isConst, natV, optV, loadV, loadC, storeV, setC, St.at_, partV, partTy, indexAddrV, fieldAddrV, sliceV, sliceV.rowSl, sliceV.strSl, bounds, cutP, builtinV, lenV, maxL, maxV, appendV, St.elems, roomy, rowOf, rowS, isStr, esz, tdOf, convV, buildV, fillV, partsV, okParts, fillL, D.whole, D.demoteC, D.demote, demoteL, D.global, D.flat, D.leaf, D.cells, TI.agg, TD.rowish, callOpV, moveL, CC, keepB, St.borrowL, St.borrow, D.isLsl, adoptR, adoptC, adoptCL, adoptL, adopt, List.toArray, Array.toList, Nat.reduceEqDiff, Nat.reduceAdd, Nat.reduceSub, Nat.reduceMul, Nat.reduceLeDiff, Nat.reduceLT, reduceIte, reduceCtorEq, forall_const, imp_self, Int.reduceNeg, Int.reduceLT, Int.reduceLE, Int.reduceGT, Int.reduceGE, Int.reduceAdd, Int.reduceSub, Int.reduceMul, Int.reduceToNat, Int.reduceEq, ne_eq, eq_self]

theorem tdiv2 (u : Nat) : (u : Int).tdiv 2 = ((u / 2 : Nat) : Int) := by rw [Int.tdiv_eq_ediv_of_nonneg (by omega)]; omega
theorem tmod2 (u : Nat) : (u : Int).tmod 2 = ((u % 2 : Nat) : Int) := by rw [Int.tmod_eq_emod_of_nonneg (by omega)]; omega
/-! ### Highest -/
def st86 (B : Hp) (x : Nat × Int × Nat) : St := ⟨[(0, .int .u64 x.1), (3, .int .i64 x.2.1), (4, .int .u64 x.2.2)], [], [], B⟩

set_option maxRecDepth 10000 in
theorem body86_end (C : Callees) (v : Nat) (n : Int) (B : Hp) :
    ∃ ρ, go T an86 C lp86_0 .top (st86 B (v, n, 0)) = some (.exit 0, ⟨ρ, [], [], B⟩) ∧ get ρ 0 = .int .u64 v ∧ get ρ 3 = .int .i64 n := by
  have h : ¬ ((0 : Nat) : Int) > 0 := by decide
  simp only [st86, lp86_0, subC, atC, Tryd.f86, an86, h, T3, T59, T66, EL, e_finWf, e_finWt, e_finMN, e_finMX, retM, meltV, tupV, D.asBox, D.row1, D.freeR, D.freeO, List.replicate_succ, stepD, accs, accP, accW, simpleOp, isAl, isExt, flipD, D.fresh1, D.row, D.plain, D.plain.plainL, St.close, St.close1, St.borrow, retV, resV, resL, outCL, outC, outL, outD, wantedV, opV, An.mid, thawV, St.settle, D.plainU, prune, envOf, get, put, eval, evalT, nz, argsV, capsV, ofV, binV, binV.aggV, unV, intV, eqOp, isConst, natV, optV, loadV, loadC, storeV, setC, St.at_, partV, partTy, indexAddrV, fieldAddrV, sliceV, sliceV.rowSl, sliceV.strSl, bounds, cutP, builtinV, lenV, maxL, maxV, appendV, St.elems, roomy, rowOf, rowS, isStr, esz, tdOf, convV, buildV, fillV, partsV, okParts, fillL, D.whole, D.demoteC, D.demote, demoteL, D.global, D.flat, D.leaf, D.cells, TI.agg, TD.rowish, callOpV, moveL, CC, keepB, St.borrowL, St.borrow, D.isLsl, adoptR, adoptC, adoptCL, adoptL, adopt, List.toArray, Array.toList, Nat.reduceEqDiff, Nat.reduceAdd, Nat.reduceSub, Nat.reduceMul, Nat.reduceLeDiff, Nat.reduceLT, reduceIte, reduceCtorEq, forall_const, imp_self, Int.reduceNeg, Int.reduceLT, Int.reduceLE, Int.reduceGT, Int.reduceGE, Int.reduceAdd, Int.reduceSub, Int.reduceMul, Int.reduceToNat, Int.reduceEq, ne_eq, eq_self]
  exact ⟨_, rfl, rfl, rfl⟩

set_option maxRecDepth 10000 in
theorem body86_ok (C : Callees) (v : Nat) (n : Int) (s : Nat) (B : Hp) (hs : 0 < s) (h32 : s ≤ 32) (hn : -1 ≤ n) (hn2 : n ≤ 1000) :
    ∃ st', go T an86 C lp86_0 .top (st86 B (v, n, s)) = some (.norm, st') ∧ an86.at_ (some 3) st' =
      st86 B (if 2 ^ s ≤ v then v / 2 ^ s else v, if 2 ^ s ≤ v then n + s else n, s / 2) := by
  have h1 : (s : Int) > 0 := by omega
  have h2 := shr_nat .u64 v s (by show s ≤ 64; omega)
  have h3 : shrV .u64 (s : Int) 1 = ((s / 2 : Nat) : Int) := shr_nat .u64 s 1 (by decide)
  have h4 : IntKind.i64.wrap (s : Int) = s := wrapI (by omega) (by omega)
  have h5 : IntKind.i64.wrap (n + s) = n + s := wrapI (by omega) (by omega)
  have h0 : ¬ (s : Int) < 0 := by omega
  by_cases hv : 2 ^ s ≤ v
  · have h6 : 0 < v / 2 ^ s := Nat.div_pos hv (Nat.pow_pos (by decide))
    generalize v / 2 ^ s = w at h2 h6 ⊢
    have h7 : ¬ (w : Int) = 0 := by omega
    rw [if_pos hv, if_pos hv]
    simp only [st86, lp86_0, subC, atC, Tryd.f86, an86, h0, h1, h2, h3, h4, h5, h7, T3, T59, T66, EL, e_finWf, e_finWt, e_finMN, e_finMX, retM, meltV, tupV, D.asBox, D.row1, D.freeR, D.freeO, List.replicate_succ, stepD, accs, accP, accW, simpleOp, isAl, isExt, flipD, D.fresh1, D.row, D.plain, D.plain.plainL, St.close, St.close1, St.borrow, retV, resV, resL, outCL, outC, outL, outD, wantedV, opV, An.mid, thawV, St.settle, D.plainU, prune, envOf, get, put, eval, evalT, nz, argsV, capsV, ofV, binV, binV.aggV, unV, intV, eqOp, isConst, natV, optV, loadV, loadC, storeV, setC, St.at_, partV, partTy, indexAddrV, fieldAddrV, sliceV, sliceV.rowSl, sliceV.strSl, bounds, cutP, builtinV, lenV, maxL, maxV, appendV, St.elems, roomy, rowOf, rowS, isStr, esz, tdOf, convV, buildV, fillV, partsV, okParts, fillL, D.whole, D.demoteC, D.demote, demoteL, D.global, D.flat, D.leaf, D.cells, TI.agg, TD.rowish, callOpV, moveL, CC, keepB, St.borrowL, St.borrow, D.isLsl, adoptR, adoptC, adoptCL, adoptL, adopt, List.toArray, Array.toList, Nat.reduceEqDiff, Nat.reduceAdd, Nat.reduceSub, Nat.reduceMul, Nat.reduceLeDiff, Nat.reduceLT, reduceIte, reduceCtorEq, forall_const, imp_self, Int.reduceNeg, Int.reduceLT, Int.reduceLE, Int.reduceGT, Int.reduceGE, Int.reduceAdd, Int.reduceSub, Int.reduceMul, Int.reduceToNat, Int.reduceEq, ne_eq, eq_self]
    exact ⟨_, rfl, rfl⟩
  · have h6 : v / 2 ^ s = 0 := Nat.div_eq_of_lt (by omega)
    rw [if_neg hv, if_neg hv]
    rw [h6] at h2
    have h2 : shrV .u64 (v : Int) s = 0 := h2
    simp only [st86, lp86_0, subC, atC, Tryd.f86, an86, h0, h1, h2, h3, h4, h5, T3, T59, T66, EL, e_finWf, e_finWt, e_finMN, e_finMX, retM, meltV, tupV, D.asBox, D.row1, D.freeR, D.freeO, List.replicate_succ, stepD, accs, accP, accW, simpleOp, isAl, isExt, flipD, D.fresh1, D.row, D.plain, D.plain.plainL, St.close, St.close1, St.borrow, retV, resV, resL, outCL, outC, outL, outD, wantedV, opV, An.mid, thawV, St.settle, D.plainU, prune, envOf, get, put, eval, evalT, nz, argsV, capsV, ofV, binV, binV.aggV, unV, intV, eqOp, isConst, natV, optV, loadV, loadC, storeV, setC, St.at_, partV, partTy, indexAddrV, fieldAddrV, sliceV, sliceV.rowSl, sliceV.strSl, bounds, cutP, builtinV, lenV, maxL, maxV, appendV, St.elems, roomy, rowOf, rowS, isStr, esz, tdOf, convV, buildV, fillV, partsV, okParts, fillL, D.whole, D.demoteC, D.demote, demoteL, D.global, D.flat, D.leaf, D.cells, TI.agg, TD.rowish, callOpV, moveL, CC, keepB, St.borrowL, St.borrow, D.isLsl, adoptR, adoptC, adoptCL, adoptL, adopt, List.toArray, Array.toList, Nat.reduceEqDiff, Nat.reduceAdd, Nat.reduceSub, Nat.reduceMul, Nat.reduceLeDiff, Nat.reduceLT, reduceIte, reduceCtorEq, forall_const, imp_self, Int.reduceNeg, Int.reduceLT, Int.reduceLE, Int.reduceGT, Int.reduceGE, Int.reduceAdd, Int.reduceSub, Int.reduceMul, Int.reduceToNat, Int.reduceEq, ne_eq, eq_self]
    exact ⟨_, rfl, rfl⟩

theorem loop86 (C : Callees) (B : Hp) : ∀ (m v : Nat) (n : Int) (st : St), v < 2 ^ 2 ^ m → m ≤ 6 → -1 ≤ n → n + 2 ^ m ≤ 70 → an86.at_ (some 3) st = st86 B (v, n, 2 ^ m / 2) →
    ∃ x st', loopC T an86 C lp86_0 st = some (x, st') ∧ ∃ (ρ : Env) (w : Nat) (k : Int), st' = ⟨ρ, [], [], B⟩ ∧ x = .exit 0 ∧ get ρ 0 = .int .u64 w ∧ get ρ 3 = .int .i64 k ∧ w < 2 ∧ -1 ≤ k ∧ k ≤ 70 ∧ k + w = n + bitsN v := by
  intro m
  induction m with
  | zero =>
    intro v n st hv _ hn hn2 hst
    obtain ⟨ρ, h, hg1, hg2⟩ := body86_end C v n B
    have hv2 : v < 2 := hv
    refine ⟨_, _, loopC_done (by rw [show firstOf lp86_0 = some 3 from rfl, hst]; exact h) (by simp), ρ, v, n, rfl, rfl, hg1, hg2, hv2, hn, by omega, ?_⟩
    rcases (by omega : v = 0 ∨ v = 1) with rfl | rfl
    · rw [bitsN_zero]
    · rw [bitsN_one]
  | succ m ih =>
    intro v n st hv hm hn hn2 hst
    have hp : (2 : Nat) ^ (m + 1) / 2 = 2 ^ m := by rw [Nat.pow_succ]; omega
    have hp1 : 0 < (2 : Nat) ^ m := Nat.pow_pos (by decide)
    have hp2 : (2 : Nat) ^ m ≤ 2 ^ 5 := Nat.pow_le_pow_right (by decide) (by omega)
    have hp3 : ((2 ^ m : Nat) : Int) = 2 ^ m := by rw [Int.natCast_pow]; rfl
    have hn3 : n + 2 * 2 ^ m ≤ 70 := by rw [Int.pow_succ] at hn2; omega
    rw [hp] at hst
    obtain ⟨st2, h, hg⟩ := body86_ok C v n (2 ^ m) B hp1 (by omega) hn (by omega)
    have hv' : v < 2 ^ 2 ^ m * 2 ^ 2 ^ m := by
      rw [← Nat.pow_add, ← Nat.two_mul, Nat.mul_comm, ← Nat.pow_succ]; exact hv
    obtain ⟨x, st', h4, ρ', w, k, h5, h6, h7, h8, h9, h10, h11, h12⟩ := ih (if 2 ^ 2 ^ m ≤ v then v / 2 ^ 2 ^ m else v) (if 2 ^ 2 ^ m ≤ v then n + (2 ^ m : Nat) else n) st2
      (by split
          · exact Nat.div_lt_of_lt_mul hv'
          · omega) (by omega) (by split <;> omega) (by split <;> omega) hg
    refine ⟨x, st', loopC_next (by rw [show firstOf lp86_0 = some 3 from rfl, hst]; exact h) h4, ρ', w, k, h5, h6, h7, h8, h9, h10, h11, ?_⟩
    rw [h12]
    by_cases hb : 2 ^ 2 ^ m ≤ v
    · rw [if_pos hb, if_pos hb, bitsN_div hb]; omega
    · rw [if_neg hb, if_neg hb]

set_option maxRecDepth 10000 in
theorem run86 (C : Callees) (v : Nat) (hv : v < 18446744073709551616) (B : Hp) : runV T C fi86 [.int .u64 v] B = some (.int .i64 ((bitsN v : Int) - 1), B) := by
  rw [e_run _ _ _ rfl]
  simp only [fi86, Tryd.f86, an86, T3, T59, T66, EL, e_finWf, e_finWt, e_finMN, e_finMX, retM, meltV, tupV, D.asBox, D.row1, D.freeR, D.freeO, List.replicate_succ, stepD, accs, accP, accW, simpleOp, isAl, isExt, flipD, D.fresh1, D.row, D.plain, D.plain.plainL, St.close, St.close1, St.borrow, retV, resV, resL, outCL, outC, outL, outD, wantedV, opV, An.mid, thawV, St.settle, D.plainU, prune, envOf, get, put, eval, evalT, nz, argsV, capsV, ofV, binV, binV.aggV, unV, intV, eqOp, isConst, natV, optV, loadV, loadC, storeV, setC, St.at_, partV, partTy, indexAddrV, fieldAddrV, sliceV, sliceV.rowSl, sliceV.strSl, bounds, cutP, builtinV, lenV, maxL, maxV, appendV, St.elems, roomy, rowOf, rowS, isStr, esz, tdOf, convV, buildV, fillV, partsV, okParts, fillL, D.whole, D.demoteC, D.demote, demoteL, D.global, D.flat, D.leaf, D.cells, TI.agg, TD.rowish, callOpV, moveL, CC, keepB, St.borrowL, St.borrow, D.isLsl, adoptR, adoptC, adoptCL, adoptL, adopt, List.toArray, Array.toList, Nat.reduceEqDiff, Nat.reduceAdd, Nat.reduceSub, Nat.reduceMul, Nat.reduceLeDiff, Nat.reduceLT, reduceIte, reduceCtorEq, forall_const, imp_self, Int.reduceNeg, Int.reduceLT, Int.reduceLE, Int.reduceGT, Int.reduceGE, Int.reduceAdd, Int.reduceSub, Int.reduceMul, Int.reduceToNat, Int.reduceEq, ne_eq, eq_self]
  refine' in_loop (c' := lp86_0) (fin T _ _ _) ?h rfl ?q
  case h => exact loop86 C B 6 v (-1) _ hv (by omega) (by omega) (by decide) rfl
  rintro x st' ⟨ρ, w, k, rfl, rfl, hg1, hg2, hw, hk, hk2, hsum⟩
  have h1 : IntKind.i64.wrap (w : Int) = w := wrapI (by omega) (by omega)
  have h2 : IntKind.i64.wrap (k + w) = (bitsN v : Int) - 1 := by rw [wrapI (by omega) (by omega)]; omega
  simp only [hg1, hg2, h1, h2, T3, T59, T66, EL, e_finWf, e_finWt, e_finMN, e_finMX, retM, meltV, tupV, D.asBox, D.row1, D.freeR, D.freeO, List.replicate_succ, stepD, accs, accP, accW, simpleOp, isAl, isExt, flipD, D.fresh1, D.row, D.plain, D.plain.plainL, St.close, St.close1, St.borrow, retV, resV, resL, outCL, outC, outL, outD, wantedV, opV, An.mid, thawV, St.settle, D.plainU, prune, envOf, get, put, eval, evalT, nz, argsV, capsV, ofV, binV, binV.aggV, unV, intV, eqOp, isConst, natV, optV, loadV, loadC, storeV, setC, St.at_, partV, partTy, indexAddrV, fieldAddrV, sliceV, sliceV.rowSl, sliceV.strSl, bounds, cutP, builtinV, lenV, maxL, maxV, appendV, St.elems, roomy, rowOf, rowS, isStr, esz, tdOf, convV, buildV, fillV, partsV, okParts, fillL, D.whole, D.demoteC, D.demote, demoteL, D.global, D.flat, D.leaf, D.cells, TI.agg, TD.rowish, callOpV, moveL, CC, keepB, St.borrowL, St.borrow, D.isLsl, adoptR, adoptC, adoptCL, adoptL, adopt, List.toArray, Array.toList, Nat.reduceEqDiff, Nat.reduceAdd, Nat.reduceSub, Nat.reduceMul, Nat.reduceLeDiff, Nat.reduceLT, reduceIte, reduceCtorEq, forall_const, imp_self, Int.reduceNeg, Int.reduceLT, Int.reduceLE, Int.reduceGT, Int.reduceGE, Int.reduceAdd, Int.reduceSub, Int.reduceMul, Int.reduceToNat, Int.reduceEq, ne_eq, eq_self]

/-! ### Lowest -/
/-- The place of the lowest bit, or -1. -/
def lowS (v : Nat) : Int := if v = 0 then -1 else ctzN v

set_option maxRecDepth 10000 in
theorem run63 (C : Callees) (hC : LibInt C) (v : Nat) (hv : v < 18446744073709551616) (B : Hp) : runV T C fi63 [.int .u64 v] B = some (.int .i64 (lowS v), B) := by
  rw [e_run _ _ _ rfl]
  unfold lowS
  by_cases h0 : v = 0
  · subst h0
    rw [if_pos rfl]
    have g1 : ∀ B, C 86 [.int .u64 (0 : Nat)] B = some (.int .i64 (-1), B) := fun B => hC.f86 _ _ _ (run86 C 0 (by decide) B)
    have g2 : IntKind.u64.wrap (0 - ((0 : Nat) : Int)) = 0 := rfl
    have g3 : bitsV .and .u64 ((0 : Nat) : Int) 0 = ((0 : Nat) : Int) := rfl
    simp only [fi63, Tryd.f63, an63, g1, g2, g3, T66, EL, e_finWf, e_finWt, e_finMN, e_finMX, retM, meltV, tupV, D.asBox, D.row1, D.freeR, D.freeO, List.replicate_succ, stepD, accs, accP, accW, simpleOp, isAl, isExt, flipD, D.fresh1, D.row, D.plain, D.plain.plainL, St.close, St.close1, St.borrow, retV, resV, resL, outCL, outC, outL, outD, wantedV, opV, An.mid, thawV, St.settle, D.plainU, prune, envOf, get, put, eval, evalT, nz, argsV, capsV, ofV, binV, binV.aggV, unV, intV, eqOp, isConst, natV, optV, loadV, loadC, storeV, setC, St.at_, partV, partTy, indexAddrV, fieldAddrV, sliceV, sliceV.rowSl, sliceV.strSl, bounds, cutP, builtinV, lenV, maxL, maxV, appendV, St.elems, roomy, rowOf, rowS, isStr, esz, tdOf, convV, buildV, fillV, partsV, okParts, fillL, D.whole, D.demoteC, D.demote, demoteL, D.global, D.flat, D.leaf, D.cells, TI.agg, TD.rowish, callOpV, moveL, CC, keepB, St.borrowL, St.borrow, D.isLsl, adoptR, adoptC, adoptCL, adoptL, adopt, List.toArray, Array.toList, Nat.reduceEqDiff, Nat.reduceAdd, Nat.reduceSub, Nat.reduceMul, Nat.reduceLeDiff, Nat.reduceLT, reduceIte, reduceCtorEq, forall_const, imp_self, Int.reduceNeg, Int.reduceLT, Int.reduceLE, Int.reduceGT, Int.reduceGE, Int.reduceAdd, Int.reduceSub, Int.reduceMul, Int.reduceToNat, Int.reduceEq, ne_eq, eq_self]
  · rw [if_neg h0]
    have hl := low_bit 64 v (by omega) hv
    have hlt := ctz_lt v (by omega)
    have hb := bitsN_64 hv
    have hp := pow_lt (x := ctzN v) (by omega)
    have g2 : IntKind.u64.wrap (0 - (v : Int)) = ((18446744073709551616 - v : Nat) : Int) := by rw [wrap_u64_mod]; omega
    have g3 := u64_and v (18446744073709551616 - v) hv (by omega)
    have hl : v &&& (18446744073709551616 - v) = 2 ^ ctzN v := hl
    rw [hl] at g3
    have g1 : ∀ B, C 86 [.int .u64 (2 ^ ctzN v : Nat)] B = some (.int .i64 (ctzN v : Nat), B) := fun B => by
      rw [hC.f86 _ _ _ (run86 C _ hp B), bitsN_pow]
      congr 3; omega
    simp only [fi63, Tryd.f63, an63, g1, g2, g3, T66, EL, e_finWf, e_finWt, e_finMN, e_finMX, retM, meltV, tupV, D.asBox, D.row1, D.freeR, D.freeO, List.replicate_succ, stepD, accs, accP, accW, simpleOp, isAl, isExt, flipD, D.fresh1, D.row, D.plain, D.plain.plainL, St.close, St.close1, St.borrow, retV, resV, resL, outCL, outC, outL, outD, wantedV, opV, An.mid, thawV, St.settle, D.plainU, prune, envOf, get, put, eval, evalT, nz, argsV, capsV, ofV, binV, binV.aggV, unV, intV, eqOp, isConst, natV, optV, loadV, loadC, storeV, setC, St.at_, partV, partTy, indexAddrV, fieldAddrV, sliceV, sliceV.rowSl, sliceV.strSl, bounds, cutP, builtinV, lenV, maxL, maxV, appendV, St.elems, roomy, rowOf, rowS, isStr, esz, tdOf, convV, buildV, fillV, partsV, okParts, fillL, D.whole, D.demoteC, D.demote, demoteL, D.global, D.flat, D.leaf, D.cells, TI.agg, TD.rowish, callOpV, moveL, CC, keepB, St.borrowL, St.borrow, D.isLsl, adoptR, adoptC, adoptCL, adoptL, adopt, List.toArray, Array.toList, Nat.reduceEqDiff, Nat.reduceAdd, Nat.reduceSub, Nat.reduceMul, Nat.reduceLeDiff, Nat.reduceLT, reduceIte, reduceCtorEq, forall_const, imp_self, Int.reduceNeg, Int.reduceLT, Int.reduceLE, Int.reduceGT, Int.reduceGE, Int.reduceAdd, Int.reduceSub, Int.reduceMul, Int.reduceToNat, Int.reduceEq, ne_eq, eq_self]

/-- The lowest bit is set, and none below it. -/
theorem ctz_bit : ∀ v, 0 < v → v.testBit (ctzN v) = true ∧ ∀ i, i < ctzN v → v.testBit i = false := bin_ind (p := fun v => 0 < v → v.testBit (ctzN v) = true ∧ ∀ i, i < ctzN v → v.testBit i = false) (fun h => by omega) (fun v hv ih _ => by
  rcases Nat.mod_two_eq_zero_or_one v with h | h
  · rw [ctz_even hv h]
    obtain ⟨h1, h2⟩ := ih (by omega)
    refine ⟨by rw [Nat.testBit_add_one]; exact h1, fun i hi => ?_⟩
    cases i with
    | zero => rw [Nat.testBit_zero, h]; rfl
    | succ i => rw [Nat.testBit_add_one]; exact h2 i (by omega)
  · rw [ctz_odd h]
    exact ⟨by rw [Nat.testBit_zero, h]; rfl, fun i hi => by omega⟩)
theorem ctz_under {v n : Nat} (h0 : 0 < v) (h : v < 2 ^ n) : ctzN v < n := by
  rcases Nat.lt_or_ge (ctzN v) n with h1 | h1
  · exact h1
  · have := (ctz_bit v h0).1
    rw [Nat.testBit_lt_two_pow (Nat.lt_of_lt_of_le h (Nat.pow_le_pow_right (by decide) h1))] at this; cases this
theorem lowS_pos {v : Nat} (h : 0 < v) : lowS v = (ctzN v : Nat) := by unfold lowS; rw [if_neg (by omega)]

theorem i70 {C : Callees} (hC : LibInt C) (v : Nat) (hv : v < 18446744073709551616) (B : Hp) : C 70 [.int .u64 v] B = some (.int .i64 (onesN v : Nat), B) := hC.f70 _ _ _ (run70 C v hv B)
theorem i63 {C : Callees} (hC : LibInt C) (v : Nat) (hv : v < 18446744073709551616) (B : Hp) : C 63 [.int .u64 v] B = some (.int .i64 (lowS v), B) := hC.f63 _ _ _ (run63 C hC v hv B)

end Go.Proofs.YtbbbhalmlboapaaDoor.V
