/-
Layer 1: how many bits are set; the lowest, the highest.
-/
import Derived.Test.YtploddijjofphaaDoorLA
namespace Go.Proofs.YtploddijjofphaaDoor.V
open Go Go.RowKit
set_option linter.unusedSimpArgs false
set_option linter.unusedVariables false

/-! warren/ints.Ones -/
def an35 : An := ⟨fun | 2 => some [0, 3] | _ => .none, fun _ => 0, fun _ => false, fun _ => .none⟩
noncomputable def fi35 : FI := ⟨1, 13, Tryd.f35.body.getD .skip, Tryd.f35.results.toList, an35, false, false⟩
theorem ok35 : FnOk Tryd.prog 35 fi35 := ⟨⟨Tryd.f35, Tryd.func35, by kernel_rfl, rfl, rfl, rfl⟩, by decide, by kernel_rfl, fun h => by cases h⟩
noncomputable def lp35_0 : Code := subC [1, 1, 0, 0, 0] (Tryd.f35.body.getD .skip)   -- head 2 keep [0, 3]
/-! warren/warrenref01.Ones -/
def an36 : An := ⟨fun | 2 => some [0, 3] | _ => .none, fun _ => 0, fun _ => false, fun _ => .none⟩
noncomputable def fi36 : FI := ⟨1, 14, Tryd.f36.body.getD .skip, Tryd.f36.results.toList, an36, false, false⟩
theorem ok36 : FnOk Tryd.prog 36 fi36 := ⟨⟨Tryd.f36, Tryd.func36, by kernel_rfl, rfl, rfl, rfl⟩, by decide, by kernel_rfl, fun h => by cases h⟩
noncomputable def lp36_0 : Code := subC [1, 1, 0, 0, 0] (Tryd.f36.body.getD .skip)   -- head 2 keep [0, 3]
/-! warren/ints.Lowest -/
def an37 : An := ⟨fun _ => .none, fun _ => 0, fun _ => false, fun _ => .none⟩
noncomputable def fi37 : FI := ⟨1, 8, Tryd.f37.body.getD .skip, Tryd.f37.results.toList, an37, false, false⟩
theorem ok37 : FnOk Tryd.prog 37 fi37 := ⟨⟨Tryd.f37, Tryd.func37, by kernel_rfl, rfl, rfl, rfl⟩, by decide, by kernel_rfl, fun h => by cases h⟩
/-! warren/warrenref01.Lowest -/
def an38 : An := ⟨fun | 4 => some [0, 3] | _ => .none, fun _ => 0, fun _ => false, fun _ => .none⟩
noncomputable def fi38 : FI := ⟨1, 14, Tryd.f38.body.getD .skip, Tryd.f38.results.toList, an38, false, false⟩
theorem ok38 : FnOk Tryd.prog 38 fi38 := ⟨⟨Tryd.f38, Tryd.func38, by kernel_rfl, rfl, rfl, rfl⟩, by decide, by kernel_rfl, fun h => by cases h⟩
noncomputable def lp38_0 : Code := subC [1, 1, 1, 0, 0, 0] (Tryd.f38.body.getD .skip)   -- head 4 keep [0, 3]
/-! warren/ints.Highest -/
def an39 : An := ⟨fun | 3 => some [0, 3, 4] | _ => .none, fun _ => 0, fun _ => false, fun _ => .none⟩
noncomputable def fi39 : FI := ⟨1, 24, Tryd.f39.body.getD .skip, Tryd.f39.results.toList, an39, false, false⟩
theorem ok39 : FnOk Tryd.prog 39 fi39 := ⟨⟨Tryd.f39, Tryd.func39, by kernel_rfl, rfl, rfl, rfl⟩, by decide, by kernel_rfl, fun h => by cases h⟩
noncomputable def lp39_0 : Code := subC [1, 1, 0, 1, 0, 0] (Tryd.f39.body.getD .skip)   -- head 3 keep [0, 3, 4]
structure Lib01B (C : Callees) : Prop extends Lib01A C where
  f35 : Has T C 35 fi35
  f36 : Has T C 36 fi36
  f37 : Has T C 37 fi37
  f38 : Has T C 38 fi38
  f39 : Has T C 39 fi39

/-! ### The plain laws -/
theorem bin_ind {p : Nat → Prop} (h0 : p 0) (h : ∀ v, 0 < v → p (v / 2) → p v) (v : Nat) : p v := by
  induction v using Nat.strongRecOn with
  | _ v ih =>
    rcases Nat.eq_zero_or_pos v with rfl | hv
    · exact h0
    · exact h v hv (ih _ (Nat.div_lt_self hv (by omega)))

def onesN (v : Nat) : Nat := if h : v = 0 then 0 else v % 2 + onesN (v / 2)
termination_by v
decreasing_by exact Nat.div_lt_self (Nat.pos_of_ne_zero h) (by omega)

theorem ones_zero : onesN 0 = 0 := by unfold onesN; rfl
theorem ones_step (v : Nat) : onesN v = v % 2 + onesN (v / 2) := by
  by_cases h : v = 0
  · subst h; simp [ones_zero]
  · rw [onesN]; simp [h]

def ctzN (v : Nat) : Nat := if h : v = 0 ∨ v % 2 = 1 then 0 else ctzN (v / 2) + 1
termination_by v
decreasing_by exact Nat.div_lt_self (Nat.pos_of_ne_zero (fun e => h (.inl e))) (by omega)

theorem ctz_odd {v : Nat} (h : v % 2 = 1) : ctzN v = 0 := by rw [ctzN]; simp [h]
theorem ctz_even {v : Nat} (h0 : 0 < v) (h : v % 2 = 0) : ctzN v = ctzN (v / 2) + 1 := by
  rw [ctzN]; rw [dif_neg (by omega)]

theorem ones_le : ∀ v, onesN v ≤ bitsN v := bin_ind (by simp [ones_zero]) (fun v hv ih => by rw [ones_step, bitsN_half hv]; omega)

theorem ones_pos : ∀ v, 0 < v → 0 < onesN v := bin_ind (p := fun v => 0 < v → 0 < onesN v) (fun h => by omega) (fun v hv ih _ => by
  rw [ones_step]
  rcases Nat.eq_zero_or_pos (v / 2) with h | h
  · omega
  · have := ih h; omega)

theorem ctz_lt : ∀ v, 0 < v → ctzN v < bitsN v := bin_ind (p := fun v => 0 < v → ctzN v < bitsN v) (fun h => by omega) (fun v hv ih _ => by
  rw [bitsN_half hv]
  rcases Nat.mod_two_eq_zero_or_one v with h | h
  · rw [ctz_even hv h]; have := ih (by omega); omega
  · rw [ctz_odd h]; omega)

/-- The bits lie between the lowest and the highest. -/
theorem ones_span : ∀ v, onesN v + ctzN v ≤ bitsN v := bin_ind (by rw [ones_zero, bitsN_zero, ctzN]; simp) (fun v hv ih => by
  rw [ones_step, bitsN_half hv]
  rcases Nat.mod_two_eq_zero_or_one v with h | h
  · rw [ctz_even hv h]; omega
  · rw [ctz_odd h]; have := ones_le (v / 2); omega)

theorem and_div2 (a b : Nat) : (a &&& b) / 2 = a / 2 &&& b / 2 := by
  apply Nat.eq_of_testBit_eq
  intro i
  rw [← Nat.testBit_add_one, Nat.testBit_and, Nat.testBit_and, Nat.testBit_add_one, Nat.testBit_add_one]

theorem and_mod2 (a b : Nat) : (a &&& b) % 2 = if a % 2 = 1 ∧ b % 2 = 1 then 1 else 0 := by
  have h := Nat.testBit_and a b 0
  simp only [Nat.testBit_zero, ← Bool.decide_and] at h
  have h := decide_eq_decide.1 h
  split
  · rename_i h1; exact h.2 h1
  · rename_i h1; have := mt h.1 h1; omega

theorem ones_less : ∀ v, 0 < v → onesN (v &&& (v - 1)) + 1 = onesN v := bin_ind (p := fun v => 0 < v → onesN (v &&& (v - 1)) + 1 = onesN v) (fun h => by omega) (fun v hv ih _ => by
  rw [ones_step, ones_step v, and_div2, and_mod2]
  rcases Nat.mod_two_eq_zero_or_one v with h | h
  · have h2 : (v - 1) / 2 = v / 2 - 1 := by omega
    rw [h2, if_neg (by omega), h]
    have := ih (by omega); omega
  · have h2 : (v - 1) / 2 = v / 2 := by omega
    rw [h2, Nat.and_self, if_neg (by omega), h]; omega)

theorem and_le_left (v : Nat) (h : 0 < v) : v &&& (v - 1) < v := by
  have := Nat.and_le_right (n := v) (m := v - 1); omega

theorem and_compl : ∀ (w u : Nat), u < 2 ^ w → u &&& (2 ^ w - 1 - u) = 0 := by
  intro w
  induction w with
  | zero => intro u h; simp at h; subst h; rfl
  | succ w ih =>
    intro u h
    rw [Nat.pow_succ] at h ⊢
    have h1 : (2 ^ w * 2 - 1 - u) / 2 = 2 ^ w - 1 - u / 2 := by omega
    have h2 : (u &&& (2 ^ w * 2 - 1 - u)) / 2 = 0 := by rw [and_div2, h1]; exact ih _ (by omega)
    have h3 := and_mod2 u (2 ^ w * 2 - 1 - u)
    rw [if_neg (by omega)] at h3
    omega

/-- Its lowest bit alone. -/
theorem low_bit : ∀ (w v : Nat), 0 < v → v < 2 ^ w → v &&& (2 ^ w - v) = 2 ^ ctzN v := by
  intro w
  induction w with
  | zero => intro v h0 h; simp at h; omega
  | succ w ih =>
    intro v h0 h
    rw [Nat.pow_succ] at h ⊢
    rcases Nat.mod_two_eq_zero_or_one v with hm | hm
    · have h1 : (2 ^ w * 2 - v) / 2 = 2 ^ w - v / 2 := by omega
      have h2 : (v &&& (2 ^ w * 2 - v)) / 2 = 2 ^ ctzN (v / 2) := by rw [and_div2, h1]; exact ih _ (by omega) (by omega)
      have h3 := and_mod2 v (2 ^ w * 2 - v)
      rw [if_neg (by omega)] at h3
      rw [ctz_even h0 hm, Nat.pow_succ]; omega
    · have h1 : (2 ^ w * 2 - v) / 2 = 2 ^ w - 1 - v / 2 := by omega
      have h2 : (v &&& (2 ^ w * 2 - v)) / 2 = 0 := by rw [and_div2, h1]; exact and_compl w _ (by omega)
      have h3 := and_mod2 v (2 ^ w * 2 - v)
      rw [if_pos (by omega)] at h3
      rw [ctz_odd hm]; omega

theorem bitsN_pow (k : Nat) : bitsN (2 ^ k) = k + 1 := by
  induction k with
  | zero => exact bitsN_one
  | succ k ih =>
    rw [bitsN_half (Nat.pow_pos (by decide)), Nat.pow_succ, Nat.mul_div_cancel _ (by decide), ih]

theorem ctz_pow_le : ∀ v, 0 < v → 2 ^ ctzN v ≤ v := bin_ind (p := fun v => 0 < v → 2 ^ ctzN v ≤ v) (fun h => by omega) (fun v hv ih _ => by
  rcases Nat.mod_two_eq_zero_or_one v with h | h
  · rw [ctz_even hv h, Nat.pow_succ]; have := ih (by omega); omega
  · rw [ctz_odd h]; omega)

/-- Without its lowest bit. -/
theorem ones_drop : ∀ v, 0 < v → onesN (v - 2 ^ ctzN v) + 1 = onesN v := bin_ind (p := fun v => 0 < v → onesN (v - 2 ^ ctzN v) + 1 = onesN v) (fun h => by omega) (fun v hv ih _ => by
  rw [ones_step, ones_step v]
  rcases Nat.mod_two_eq_zero_or_one v with h | h
  · rw [ctz_even hv h, Nat.pow_succ]
    have h1 : (v - 2 ^ ctzN (v / 2) * 2) / 2 = v / 2 - 2 ^ ctzN (v / 2) := by omega
    rw [h1, h]
    have := ih (by omega); omega
  · rw [ctz_odd h]
    have h1 : (v - 2 ^ 0) / 2 = v / 2 := by omega
    rw [h1]; omega)

/-- Its highest bit alone. -/
theorem high_bit {v : Nat} (h : 0 < v) : v / 2 ^ (bitsN v - 1) = 1 := by
  have h0 : 0 < bitsN v := by have := ctz_lt v h; omega
  have h1 := (bitsN_le v (bitsN v)).1 (Nat.le_refl _)
  have h2 : ¬ v < 2 ^ (bitsN v - 1) := fun hlt => by have := (bitsN_le v (bitsN v - 1)).2 hlt; omega
  rw [pow_split h0] at h1
  have hp : 0 < 2 ^ (bitsN v - 1) := Nat.pow_pos (by decide)
  generalize 2 ^ (bitsN v - 1) = p at h1 h2 hp ⊢
  exact Nat.div_eq_of_lt_le (by omega) (by omega)

/-! ### Ones -/
def st35 (B : Hp) (x : Nat × Nat) : St := ⟨[(0, .int .u64 x.1), (3, .int .i64 x.2)], [], [], B⟩

set_option maxRecDepth 10000 in
theorem loop35 (C : Callees) (B : Hp) (v : Nat) (hv : v < 18446744073709551616) (st : St) (hst : an35.at_ (some 2) st = st35 B (v, 0)) :
    ∃ x st', loopC T an35 C lp35_0 st = some (x, st') ∧ ∃ ρ, st' = ⟨ρ, [], [], B⟩ ∧ x = .exit 0 ∧ get ρ 3 = .int .i64 (onesN v : Nat) := by
  have hb := bitsN_64 hv
  have ho := ones_le v
  refine loop_rule (st35 B) (fun x => x.1 ≤ v ∧ x.2 + onesN x.1 = onesN v) (fun x => x.1) (fun x st' => ∃ ρ, st' = ⟨ρ, [], [], B⟩ ∧ x = .exit 0 ∧ get ρ 3 = .int .i64 (onesN v : Nat)) ?_ (v, 0) st hst ⟨Nat.le_refl _, by simp⟩
  rintro ⟨u, n⟩ ⟨h1, h2⟩
  simp only at h1 h2
  rcases Nat.eq_zero_or_pos u with rfl | hu
  · right
    rw [ones_zero] at h2
    have h : ((0 : Nat) : Int) = 0 := rfl
    simp only [st35, lp35_0, subC, atC, Tryd.f35, an35, h, T3, T49, e_seq, e_region, e_dyn, e_dynS, stepD, accs, accP, accW, simpleOp, isAl, isExt, flipD, D.fresh1, D.row, D.plain, D.plain.plainL, St.close, St.close1, St.borrow, List.flatten_cons, List.flatten_nil, e_block, e_cond, e_ret, e_skip, e_exit, e_plain, e_guard, e_nil, e_op, e_ifT, e_ifF, e_true, e_false, e_loop, e_l, e_top, e_seqN, e_seqE, e_seqR, e_blockN, e_blockR, e_blockE,
    begin_f, begin_t, end_f, e_finN, e_finX, e_finR, retV, resV, resL, outCL, outC, outL, outD, wantedV, opV, An.mid, thawV, D.plainU, prune, List.map_cons, List.map_nil, envOf, get, put, eval, evalT, nz, argsV, capsV, ofV, nbeq, nble, binV, binV.aggV, unV, intV, eqOp, isConst, natV, optV, loadV, loadC, storeV, setC, St.at_, partV, partTy, indexAddrV, fieldAddrV, sliceV, sliceV.rowSl, sliceV.strSl, bounds, cutP,
    builtinV, lenV, maxL, maxV, appendV, St.elems, roomy, rowOf, rowS, isStr, esz, tdOf, convV, buildV, fillV, partsV, okParts, fillL, D.whole, D.demoteC, D.demote, demoteL, D.global, D.flat, D.leaf, D.cells, TI.agg, TD.rowish, callOpV, moveL, CC, keepB, St.borrowL, St.borrow, D.isLsl, adoptR, adoptC, adoptCL, adoptL, adopt,
    List.toArray, Array.toList, List.length_cons, List.length_nil, List.length_map, List.length_append, List.length_replicate, List.replicate_succ, List.replicate_zero, List.replicate_one, ← List.map_take, ← List.map_drop, List.isEmpty_cons, List.isEmpty_nil, List.drop_zero, List.take_succ_cons, List.take_zero, List.take_nil, List.drop_succ_cons, List.drop_nil, Nat.zero_le, Nat.le_refl, Nat.sub_zero, List.getElem?_cons_succ, List.getElem?_cons_zero, List.getElem?_nil, List.any_cons, List.any_nil, List.all_cons, List.all_nil, List.append_nil, List.nil_append, List.cons_append, List.set_cons_zero, List.set_cons_succ,
    cond_true, cond_false, decide_true, decide_false, Bool.true_and, Bool.and_true, Bool.false_and, Bool.and_false, Bool.true_or, Bool.or_true, Bool.false_or, Bool.or_false, Bool.not_true, Bool.not_false, Bool.and_self, Bool.or_self, bT, bF, ieq, ine, decide_eq_true_eq, decide_not,
    Nat.reduceEqDiff, Nat.reduceAdd, Nat.reduceSub, Nat.reduceMul, Nat.reduceLeDiff, Nat.reduceLT, Nat.zero_add, Nat.add_zero, Option.getD_some, Option.getD_none, Option.isSome_some, Option.isSome_none, reduceIte, reduceCtorEq, and_self, and_true, true_and, not_true_eq_false, not_false_eq_true, false_imp_iff, forall_const, imp_self,
    Int.reduceNeg, Int.reduceLT, Int.reduceLE, Int.reduceGT, Int.reduceGE, Int.reduceAdd, Int.reduceSub, Int.reduceMul, Int.reduceToNat, Int.reduceEq, ne_eq, eq_self, beq_self_eq_true]
    exact ⟨_, _, rfl, by simp, _, rfl, rfl, by rw [← h2]; rfl⟩
  · left
    have h : ¬ (u : Int) = 0 := by omega
    have h3 := ones_less u hu
    have h4 := and_le_left u hu
    have g1 : IntKind.u64.wrap ((u : Int) - 1) = ((u - 1 : Nat) : Int) := by rw [wrap_u64 (by omega) (by omega)]; omega
    have g2 := u64_and u (u - 1) (by omega) (by omega)
    have g3 : IntKind.i64.wrap ((n : Int) + 1) = ((n + 1 : Nat) : Int) := by rw [wrapI (by omega) (by omega)]; rfl
    refine ⟨(u &&& (u - 1), n + 1), ?_, ⟨by show u &&& (u - 1) ≤ v; omega, by show n + 1 + onesN (u &&& (u - 1)) = onesN v; omega⟩, h4⟩
    simp only [st35, lp35_0, subC, atC, Tryd.f35, an35, h, g1, g2, g3, T3, T49, e_seq, e_region, e_dyn, e_dynS, stepD, accs, accP, accW, simpleOp, isAl, isExt, flipD, D.fresh1, D.row, D.plain, D.plain.plainL, St.close, St.close1, St.borrow, List.flatten_cons, List.flatten_nil, e_block, e_cond, e_ret, e_skip, e_exit, e_plain, e_guard, e_nil, e_op, e_ifT, e_ifF, e_true, e_false, e_loop, e_l, e_top, e_seqN, e_seqE, e_seqR, e_blockN, e_blockR, e_blockE,
    begin_f, begin_t, end_f, e_finN, e_finX, e_finR, retV, resV, resL, outCL, outC, outL, outD, wantedV, opV, An.mid, thawV, D.plainU, prune, List.map_cons, List.map_nil, envOf, get, put, eval, evalT, nz, argsV, capsV, ofV, nbeq, nble, binV, binV.aggV, unV, intV, eqOp, isConst, natV, optV, loadV, loadC, storeV, setC, St.at_, partV, partTy, indexAddrV, fieldAddrV, sliceV, sliceV.rowSl, sliceV.strSl, bounds, cutP,
    builtinV, lenV, maxL, maxV, appendV, St.elems, roomy, rowOf, rowS, isStr, esz, tdOf, convV, buildV, fillV, partsV, okParts, fillL, D.whole, D.demoteC, D.demote, demoteL, D.global, D.flat, D.leaf, D.cells, TI.agg, TD.rowish, callOpV, moveL, CC, keepB, St.borrowL, St.borrow, D.isLsl, adoptR, adoptC, adoptCL, adoptL, adopt,
    List.toArray, Array.toList, List.length_cons, List.length_nil, List.length_map, List.length_append, List.length_replicate, List.replicate_succ, List.replicate_zero, List.replicate_one, ← List.map_take, ← List.map_drop, List.isEmpty_cons, List.isEmpty_nil, List.drop_zero, List.take_succ_cons, List.take_zero, List.take_nil, List.drop_succ_cons, List.drop_nil, Nat.zero_le, Nat.le_refl, Nat.sub_zero, List.getElem?_cons_succ, List.getElem?_cons_zero, List.getElem?_nil, List.any_cons, List.any_nil, List.all_cons, List.all_nil, List.append_nil, List.nil_append, List.cons_append, List.set_cons_zero, List.set_cons_succ,
    cond_true, cond_false, decide_true, decide_false, Bool.true_and, Bool.and_true, Bool.false_and, Bool.and_false, Bool.true_or, Bool.or_true, Bool.false_or, Bool.or_false, Bool.not_true, Bool.not_false, Bool.and_self, Bool.or_self, bT, bF, ieq, ine, decide_eq_true_eq, decide_not,
    Nat.reduceEqDiff, Nat.reduceAdd, Nat.reduceSub, Nat.reduceMul, Nat.reduceLeDiff, Nat.reduceLT, Nat.zero_add, Nat.add_zero, Option.getD_some, Option.getD_none, Option.isSome_some, Option.isSome_none, reduceIte, reduceCtorEq, and_self, and_true, true_and, not_true_eq_false, not_false_eq_true, false_imp_iff, forall_const, imp_self,
    Int.reduceNeg, Int.reduceLT, Int.reduceLE, Int.reduceGT, Int.reduceGE, Int.reduceAdd, Int.reduceSub, Int.reduceMul, Int.reduceToNat, Int.reduceEq, ne_eq, eq_self, beq_self_eq_true]
    exact ⟨_, rfl, rfl⟩

set_option maxRecDepth 10000 in
theorem run35 (C : Callees) (v : Nat) (hv : v < 18446744073709551616) (B : Hp) : runV T C fi35 [.int .u64 v] B = some (.int .i64 (onesN v : Nat), B) := by
  rw [e_run _ _ _ rfl]
  simp only [fi35, Tryd.f35, an35, T3, T49, e_seq, e_region, e_dyn, e_dynS, stepD, accs, accP, accW, simpleOp, isAl, isExt, flipD, D.fresh1, D.row, D.plain, D.plain.plainL, St.close, St.close1, St.borrow, List.flatten_cons, List.flatten_nil, e_block, e_cond, e_ret, e_skip, e_exit, e_plain, e_guard, e_nil, e_op, e_ifT, e_ifF, e_true, e_false, e_loop, e_l, e_top, e_seqN, e_seqE, e_seqR, e_blockN, e_blockR, e_blockE,
    begin_f, begin_t, end_f, e_finN, e_finX, e_finR, retV, resV, resL, outCL, outC, outL, outD, wantedV, opV, An.mid, thawV, D.plainU, prune, List.map_cons, List.map_nil, envOf, get, put, eval, evalT, nz, argsV, capsV, ofV, nbeq, nble, binV, binV.aggV, unV, intV, eqOp, isConst, natV, optV, loadV, loadC, storeV, setC, St.at_, partV, partTy, indexAddrV, fieldAddrV, sliceV, sliceV.rowSl, sliceV.strSl, bounds, cutP,
    builtinV, lenV, maxL, maxV, appendV, St.elems, roomy, rowOf, rowS, isStr, esz, tdOf, convV, buildV, fillV, partsV, okParts, fillL, D.whole, D.demoteC, D.demote, demoteL, D.global, D.flat, D.leaf, D.cells, TI.agg, TD.rowish, callOpV, moveL, CC, keepB, St.borrowL, St.borrow, D.isLsl, adoptR, adoptC, adoptCL, adoptL, adopt,
    List.toArray, Array.toList, List.length_cons, List.length_nil, List.length_map, List.length_append, List.length_replicate, List.replicate_succ, List.replicate_zero, List.replicate_one, ← List.map_take, ← List.map_drop, List.isEmpty_cons, List.isEmpty_nil, List.drop_zero, List.take_succ_cons, List.take_zero, List.take_nil, List.drop_succ_cons, List.drop_nil, Nat.zero_le, Nat.le_refl, Nat.sub_zero, List.getElem?_cons_succ, List.getElem?_cons_zero, List.getElem?_nil, List.any_cons, List.any_nil, List.all_cons, List.all_nil, List.append_nil, List.nil_append, List.cons_append, List.set_cons_zero, List.set_cons_succ,
    cond_true, cond_false, decide_true, decide_false, Bool.true_and, Bool.and_true, Bool.false_and, Bool.and_false, Bool.true_or, Bool.or_true, Bool.false_or, Bool.or_false, Bool.not_true, Bool.not_false, Bool.and_self, Bool.or_self, bT, bF, ieq, ine, decide_eq_true_eq, decide_not,
    Nat.reduceEqDiff, Nat.reduceAdd, Nat.reduceSub, Nat.reduceMul, Nat.reduceLeDiff, Nat.reduceLT, Nat.zero_add, Nat.add_zero, Option.getD_some, Option.getD_none, Option.isSome_some, Option.isSome_none, reduceIte, reduceCtorEq, and_self, and_true, true_and, not_true_eq_false, not_false_eq_true, false_imp_iff, forall_const, imp_self,
    Int.reduceNeg, Int.reduceLT, Int.reduceLE, Int.reduceGT, Int.reduceGE, Int.reduceAdd, Int.reduceSub, Int.reduceMul, Int.reduceToNat, Int.reduceEq, ne_eq, eq_self, beq_self_eq_true]
  refine' in_loop (c' := lp35_0) (fin T _ _ _) ?h rfl ?q
  case h => exact loop35 C B v hv _ rfl
  rintro x st' ⟨ρ, rfl, rfl, hg⟩
  simp only [hg, T3, T49, e_seq, e_region, e_dyn, e_dynS, stepD, accs, accP, accW, simpleOp, isAl, isExt, flipD, D.fresh1, D.row, D.plain, D.plain.plainL, St.close, St.close1, St.borrow, List.flatten_cons, List.flatten_nil, e_block, e_cond, e_ret, e_skip, e_exit, e_plain, e_guard, e_nil, e_op, e_ifT, e_ifF, e_true, e_false, e_loop, e_l, e_top, e_seqN, e_seqE, e_seqR, e_blockN, e_blockR, e_blockE,
    begin_f, begin_t, end_f, e_finN, e_finX, e_finR, retV, resV, resL, outCL, outC, outL, outD, wantedV, opV, An.mid, thawV, D.plainU, prune, List.map_cons, List.map_nil, envOf, get, put, eval, evalT, nz, argsV, capsV, ofV, nbeq, nble, binV, binV.aggV, unV, intV, eqOp, isConst, natV, optV, loadV, loadC, storeV, setC, St.at_, partV, partTy, indexAddrV, fieldAddrV, sliceV, sliceV.rowSl, sliceV.strSl, bounds, cutP,
    builtinV, lenV, maxL, maxV, appendV, St.elems, roomy, rowOf, rowS, isStr, esz, tdOf, convV, buildV, fillV, partsV, okParts, fillL, D.whole, D.demoteC, D.demote, demoteL, D.global, D.flat, D.leaf, D.cells, TI.agg, TD.rowish, callOpV, moveL, CC, keepB, St.borrowL, St.borrow, D.isLsl, adoptR, adoptC, adoptCL, adoptL, adopt,
    List.toArray, Array.toList, List.length_cons, List.length_nil, List.length_map, List.length_append, List.length_replicate, List.replicate_succ, List.replicate_zero, List.replicate_one, ← List.map_take, ← List.map_drop, List.isEmpty_cons, List.isEmpty_nil, List.drop_zero, List.take_succ_cons, List.take_zero, List.take_nil, List.drop_succ_cons, List.drop_nil, Nat.zero_le, Nat.le_refl, Nat.sub_zero, List.getElem?_cons_succ, List.getElem?_cons_zero, List.getElem?_nil, List.any_cons, List.any_nil, List.all_cons, List.all_nil, List.append_nil, List.nil_append, List.cons_append, List.set_cons_zero, List.set_cons_succ,
    cond_true, cond_false, decide_true, decide_false, Bool.true_and, Bool.and_true, Bool.false_and, Bool.and_false, Bool.true_or, Bool.or_true, Bool.false_or, Bool.or_false, Bool.not_true, Bool.not_false, Bool.and_self, Bool.or_self, bT, bF, ieq, ine, decide_eq_true_eq, decide_not,
    Nat.reduceEqDiff, Nat.reduceAdd, Nat.reduceSub, Nat.reduceMul, Nat.reduceLeDiff, Nat.reduceLT, Nat.zero_add, Nat.add_zero, Option.getD_some, Option.getD_none, Option.isSome_some, Option.isSome_none, reduceIte, reduceCtorEq, and_self, and_true, true_and, not_true_eq_false, not_false_eq_true, false_imp_iff, forall_const, imp_self,
    Int.reduceNeg, Int.reduceLT, Int.reduceLE, Int.reduceGT, Int.reduceGE, Int.reduceAdd, Int.reduceSub, Int.reduceMul, Int.reduceToNat, Int.reduceEq, ne_eq, eq_self, beq_self_eq_true]

def st36 (B : Hp) (x : Nat × Nat) : St := ⟨[(0, .int .u64 x.1), (3, .int .i64 x.2)], [], [], B⟩

theorem tdiv2 (u : Nat) : (u : Int).tdiv 2 = ((u / 2 : Nat) : Int) := by rw [Int.tdiv_eq_ediv_of_nonneg (by omega)]; omega
theorem tmod2 (u : Nat) : (u : Int).tmod 2 = ((u % 2 : Nat) : Int) := by rw [Int.tmod_eq_emod_of_nonneg (by omega)]; omega

set_option maxRecDepth 10000 in
theorem loop36 (C : Callees) (B : Hp) (v : Nat) (hv : v < 18446744073709551616) (st : St) (hst : an36.at_ (some 2) st = st36 B (v, 0)) :
    ∃ x st', loopC T an36 C lp36_0 st = some (x, st') ∧ ∃ ρ, st' = ⟨ρ, [], [], B⟩ ∧ x = .exit 0 ∧ get ρ 3 = .int .i64 (onesN v : Nat) := by
  have hb := bitsN_64 hv
  have ho := ones_le v
  refine loop_rule (st36 B) (fun x => x.1 ≤ v ∧ x.2 + onesN x.1 = onesN v) (fun x => x.1) (fun x st' => ∃ ρ, st' = ⟨ρ, [], [], B⟩ ∧ x = .exit 0 ∧ get ρ 3 = .int .i64 (onesN v : Nat)) ?_ (v, 0) st hst ⟨Nat.le_refl _, by simp⟩
  rintro ⟨u, n⟩ ⟨h1, h2⟩
  simp only at h1 h2
  rcases Nat.eq_zero_or_pos u with rfl | hu
  · right
    rw [ones_zero] at h2
    have h : ¬ ((0 : Nat) : Int) > 0 := by decide
    simp only [st36, lp36_0, subC, atC, Tryd.f36, an36, h, T3, T49, e_seq, e_region, e_dyn, e_dynS, stepD, accs, accP, accW, simpleOp, isAl, isExt, flipD, D.fresh1, D.row, D.plain, D.plain.plainL, St.close, St.close1, St.borrow, List.flatten_cons, List.flatten_nil, e_block, e_cond, e_ret, e_skip, e_exit, e_plain, e_guard, e_nil, e_op, e_ifT, e_ifF, e_true, e_false, e_loop, e_l, e_top, e_seqN, e_seqE, e_seqR, e_blockN, e_blockR, e_blockE,
    begin_f, begin_t, end_f, e_finN, e_finX, e_finR, retV, resV, resL, outCL, outC, outL, outD, wantedV, opV, An.mid, thawV, D.plainU, prune, List.map_cons, List.map_nil, envOf, get, put, eval, evalT, nz, argsV, capsV, ofV, nbeq, nble, binV, binV.aggV, unV, intV, eqOp, isConst, natV, optV, loadV, loadC, storeV, setC, St.at_, partV, partTy, indexAddrV, fieldAddrV, sliceV, sliceV.rowSl, sliceV.strSl, bounds, cutP,
    builtinV, lenV, maxL, maxV, appendV, St.elems, roomy, rowOf, rowS, isStr, esz, tdOf, convV, buildV, fillV, partsV, okParts, fillL, D.whole, D.demoteC, D.demote, demoteL, D.global, D.flat, D.leaf, D.cells, TI.agg, TD.rowish, callOpV, moveL, CC, keepB, St.borrowL, St.borrow, D.isLsl, adoptR, adoptC, adoptCL, adoptL, adopt,
    List.toArray, Array.toList, List.length_cons, List.length_nil, List.length_map, List.length_append, List.length_replicate, List.replicate_succ, List.replicate_zero, List.replicate_one, ← List.map_take, ← List.map_drop, List.isEmpty_cons, List.isEmpty_nil, List.drop_zero, List.take_succ_cons, List.take_zero, List.take_nil, List.drop_succ_cons, List.drop_nil, Nat.zero_le, Nat.le_refl, Nat.sub_zero, List.getElem?_cons_succ, List.getElem?_cons_zero, List.getElem?_nil, List.any_cons, List.any_nil, List.all_cons, List.all_nil, List.append_nil, List.nil_append, List.cons_append, List.set_cons_zero, List.set_cons_succ,
    cond_true, cond_false, decide_true, decide_false, Bool.true_and, Bool.and_true, Bool.false_and, Bool.and_false, Bool.true_or, Bool.or_true, Bool.false_or, Bool.or_false, Bool.not_true, Bool.not_false, Bool.and_self, Bool.or_self, bT, bF, ieq, ine, decide_eq_true_eq, decide_not,
    Nat.reduceEqDiff, Nat.reduceAdd, Nat.reduceSub, Nat.reduceMul, Nat.reduceLeDiff, Nat.reduceLT, Nat.zero_add, Nat.add_zero, Option.getD_some, Option.getD_none, Option.isSome_some, Option.isSome_none, reduceIte, reduceCtorEq, and_self, and_true, true_and, not_true_eq_false, not_false_eq_true, false_imp_iff, forall_const, imp_self,
    Int.reduceNeg, Int.reduceLT, Int.reduceLE, Int.reduceGT, Int.reduceGE, Int.reduceAdd, Int.reduceSub, Int.reduceMul, Int.reduceToNat, Int.reduceEq, ne_eq, eq_self, beq_self_eq_true]
    exact ⟨_, _, rfl, by simp, _, rfl, rfl, by rw [← h2]; rfl⟩
  · left
    have h : (u : Int) > 0 := by omega
    have h3 := ones_step u
    have g1 := tdiv2 u
    have g2 : IntKind.u64.wrap ((u / 2 : Nat) : Int) = ((u / 2 : Nat) : Int) := wrap_u64 (by omega) (by omega)
    have g4 := tmod2 u
    have g5 : IntKind.i64.wrap ((u % 2 : Nat) : Int) = ((u % 2 : Nat) : Int) := wrapI (by omega) (by omega)
    have g3 : IntKind.i64.wrap ((n : Int) + ((u % 2 : Nat) : Int)) = ((n + u % 2 : Nat) : Int) := by rw [wrapI (by omega) (by omega)]; rfl
    refine ⟨(u / 2, n + u % 2), ?_, ⟨by show u / 2 ≤ v; omega, by show n + u % 2 + onesN (u / 2) = onesN v; omega⟩, Nat.div_lt_self hu (by omega)⟩
    simp only [st36, lp36_0, subC, atC, Tryd.f36, an36, h, g1, g2, g3, g4, g5, T3, T49, e_seq, e_region, e_dyn, e_dynS, stepD, accs, accP, accW, simpleOp, isAl, isExt, flipD, D.fresh1, D.row, D.plain, D.plain.plainL, St.close, St.close1, St.borrow, List.flatten_cons, List.flatten_nil, e_block, e_cond, e_ret, e_skip, e_exit, e_plain, e_guard, e_nil, e_op, e_ifT, e_ifF, e_true, e_false, e_loop, e_l, e_top, e_seqN, e_seqE, e_seqR, e_blockN, e_blockR, e_blockE,
    begin_f, begin_t, end_f, e_finN, e_finX, e_finR, retV, resV, resL, outCL, outC, outL, outD, wantedV, opV, An.mid, thawV, D.plainU, prune, List.map_cons, List.map_nil, envOf, get, put, eval, evalT, nz, argsV, capsV, ofV, nbeq, nble, binV, binV.aggV, unV, intV, eqOp, isConst, natV, optV, loadV, loadC, storeV, setC, St.at_, partV, partTy, indexAddrV, fieldAddrV, sliceV, sliceV.rowSl, sliceV.strSl, bounds, cutP,
    builtinV, lenV, maxL, maxV, appendV, St.elems, roomy, rowOf, rowS, isStr, esz, tdOf, convV, buildV, fillV, partsV, okParts, fillL, D.whole, D.demoteC, D.demote, demoteL, D.global, D.flat, D.leaf, D.cells, TI.agg, TD.rowish, callOpV, moveL, CC, keepB, St.borrowL, St.borrow, D.isLsl, adoptR, adoptC, adoptCL, adoptL, adopt,
    List.toArray, Array.toList, List.length_cons, List.length_nil, List.length_map, List.length_append, List.length_replicate, List.replicate_succ, List.replicate_zero, List.replicate_one, ← List.map_take, ← List.map_drop, List.isEmpty_cons, List.isEmpty_nil, List.drop_zero, List.take_succ_cons, List.take_zero, List.take_nil, List.drop_succ_cons, List.drop_nil, Nat.zero_le, Nat.le_refl, Nat.sub_zero, List.getElem?_cons_succ, List.getElem?_cons_zero, List.getElem?_nil, List.any_cons, List.any_nil, List.all_cons, List.all_nil, List.append_nil, List.nil_append, List.cons_append, List.set_cons_zero, List.set_cons_succ,
    cond_true, cond_false, decide_true, decide_false, Bool.true_and, Bool.and_true, Bool.false_and, Bool.and_false, Bool.true_or, Bool.or_true, Bool.false_or, Bool.or_false, Bool.not_true, Bool.not_false, Bool.and_self, Bool.or_self, bT, bF, ieq, ine, decide_eq_true_eq, decide_not,
    Nat.reduceEqDiff, Nat.reduceAdd, Nat.reduceSub, Nat.reduceMul, Nat.reduceLeDiff, Nat.reduceLT, Nat.zero_add, Nat.add_zero, Option.getD_some, Option.getD_none, Option.isSome_some, Option.isSome_none, reduceIte, reduceCtorEq, and_self, and_true, true_and, not_true_eq_false, not_false_eq_true, false_imp_iff, forall_const, imp_self,
    Int.reduceNeg, Int.reduceLT, Int.reduceLE, Int.reduceGT, Int.reduceGE, Int.reduceAdd, Int.reduceSub, Int.reduceMul, Int.reduceToNat, Int.reduceEq, ne_eq, eq_self, beq_self_eq_true]
    exact ⟨_, rfl, rfl⟩

set_option maxRecDepth 10000 in
theorem run36 (C : Callees) (v : Nat) (hv : v < 18446744073709551616) (B : Hp) : runV T C fi36 [.int .u64 v] B = some (.int .i64 (onesN v : Nat), B) := by
  rw [e_run _ _ _ rfl]
  simp only [fi36, Tryd.f36, an36, T3, T49, e_seq, e_region, e_dyn, e_dynS, stepD, accs, accP, accW, simpleOp, isAl, isExt, flipD, D.fresh1, D.row, D.plain, D.plain.plainL, St.close, St.close1, St.borrow, List.flatten_cons, List.flatten_nil, e_block, e_cond, e_ret, e_skip, e_exit, e_plain, e_guard, e_nil, e_op, e_ifT, e_ifF, e_true, e_false, e_loop, e_l, e_top, e_seqN, e_seqE, e_seqR, e_blockN, e_blockR, e_blockE,
    begin_f, begin_t, end_f, e_finN, e_finX, e_finR, retV, resV, resL, outCL, outC, outL, outD, wantedV, opV, An.mid, thawV, D.plainU, prune, List.map_cons, List.map_nil, envOf, get, put, eval, evalT, nz, argsV, capsV, ofV, nbeq, nble, binV, binV.aggV, unV, intV, eqOp, isConst, natV, optV, loadV, loadC, storeV, setC, St.at_, partV, partTy, indexAddrV, fieldAddrV, sliceV, sliceV.rowSl, sliceV.strSl, bounds, cutP,
    builtinV, lenV, maxL, maxV, appendV, St.elems, roomy, rowOf, rowS, isStr, esz, tdOf, convV, buildV, fillV, partsV, okParts, fillL, D.whole, D.demoteC, D.demote, demoteL, D.global, D.flat, D.leaf, D.cells, TI.agg, TD.rowish, callOpV, moveL, CC, keepB, St.borrowL, St.borrow, D.isLsl, adoptR, adoptC, adoptCL, adoptL, adopt,
    List.toArray, Array.toList, List.length_cons, List.length_nil, List.length_map, List.length_append, List.length_replicate, List.replicate_succ, List.replicate_zero, List.replicate_one, ← List.map_take, ← List.map_drop, List.isEmpty_cons, List.isEmpty_nil, List.drop_zero, List.take_succ_cons, List.take_zero, List.take_nil, List.drop_succ_cons, List.drop_nil, Nat.zero_le, Nat.le_refl, Nat.sub_zero, List.getElem?_cons_succ, List.getElem?_cons_zero, List.getElem?_nil, List.any_cons, List.any_nil, List.all_cons, List.all_nil, List.append_nil, List.nil_append, List.cons_append, List.set_cons_zero, List.set_cons_succ,
    cond_true, cond_false, decide_true, decide_false, Bool.true_and, Bool.and_true, Bool.false_and, Bool.and_false, Bool.true_or, Bool.or_true, Bool.false_or, Bool.or_false, Bool.not_true, Bool.not_false, Bool.and_self, Bool.or_self, bT, bF, ieq, ine, decide_eq_true_eq, decide_not,
    Nat.reduceEqDiff, Nat.reduceAdd, Nat.reduceSub, Nat.reduceMul, Nat.reduceLeDiff, Nat.reduceLT, Nat.zero_add, Nat.add_zero, Option.getD_some, Option.getD_none, Option.isSome_some, Option.isSome_none, reduceIte, reduceCtorEq, and_self, and_true, true_and, not_true_eq_false, not_false_eq_true, false_imp_iff, forall_const, imp_self,
    Int.reduceNeg, Int.reduceLT, Int.reduceLE, Int.reduceGT, Int.reduceGE, Int.reduceAdd, Int.reduceSub, Int.reduceMul, Int.reduceToNat, Int.reduceEq, ne_eq, eq_self, beq_self_eq_true]
  refine' in_loop (c' := lp36_0) (fin T _ _ _) ?h rfl ?q
  case h => exact loop36 C B v hv _ rfl
  rintro x st' ⟨ρ, rfl, rfl, hg⟩
  simp only [hg, T3, T49, e_seq, e_region, e_dyn, e_dynS, stepD, accs, accP, accW, simpleOp, isAl, isExt, flipD, D.fresh1, D.row, D.plain, D.plain.plainL, St.close, St.close1, St.borrow, List.flatten_cons, List.flatten_nil, e_block, e_cond, e_ret, e_skip, e_exit, e_plain, e_guard, e_nil, e_op, e_ifT, e_ifF, e_true, e_false, e_loop, e_l, e_top, e_seqN, e_seqE, e_seqR, e_blockN, e_blockR, e_blockE,
    begin_f, begin_t, end_f, e_finN, e_finX, e_finR, retV, resV, resL, outCL, outC, outL, outD, wantedV, opV, An.mid, thawV, D.plainU, prune, List.map_cons, List.map_nil, envOf, get, put, eval, evalT, nz, argsV, capsV, ofV, nbeq, nble, binV, binV.aggV, unV, intV, eqOp, isConst, natV, optV, loadV, loadC, storeV, setC, St.at_, partV, partTy, indexAddrV, fieldAddrV, sliceV, sliceV.rowSl, sliceV.strSl, bounds, cutP,
    builtinV, lenV, maxL, maxV, appendV, St.elems, roomy, rowOf, rowS, isStr, esz, tdOf, convV, buildV, fillV, partsV, okParts, fillL, D.whole, D.demoteC, D.demote, demoteL, D.global, D.flat, D.leaf, D.cells, TI.agg, TD.rowish, callOpV, moveL, CC, keepB, St.borrowL, St.borrow, D.isLsl, adoptR, adoptC, adoptCL, adoptL, adopt,
    List.toArray, Array.toList, List.length_cons, List.length_nil, List.length_map, List.length_append, List.length_replicate, List.replicate_succ, List.replicate_zero, List.replicate_one, ← List.map_take, ← List.map_drop, List.isEmpty_cons, List.isEmpty_nil, List.drop_zero, List.take_succ_cons, List.take_zero, List.take_nil, List.drop_succ_cons, List.drop_nil, Nat.zero_le, Nat.le_refl, Nat.sub_zero, List.getElem?_cons_succ, List.getElem?_cons_zero, List.getElem?_nil, List.any_cons, List.any_nil, List.all_cons, List.all_nil, List.append_nil, List.nil_append, List.cons_append, List.set_cons_zero, List.set_cons_succ,
    cond_true, cond_false, decide_true, decide_false, Bool.true_and, Bool.and_true, Bool.false_and, Bool.and_false, Bool.true_or, Bool.or_true, Bool.false_or, Bool.or_false, Bool.not_true, Bool.not_false, Bool.and_self, Bool.or_self, bT, bF, ieq, ine, decide_eq_true_eq, decide_not,
    Nat.reduceEqDiff, Nat.reduceAdd, Nat.reduceSub, Nat.reduceMul, Nat.reduceLeDiff, Nat.reduceLT, Nat.zero_add, Nat.add_zero, Option.getD_some, Option.getD_none, Option.isSome_some, Option.isSome_none, reduceIte, reduceCtorEq, and_self, and_true, true_and, not_true_eq_false, not_false_eq_true, false_imp_iff, forall_const, imp_self,
    Int.reduceNeg, Int.reduceLT, Int.reduceLE, Int.reduceGT, Int.reduceGE, Int.reduceAdd, Int.reduceSub, Int.reduceMul, Int.reduceToNat, Int.reduceEq, ne_eq, eq_self, beq_self_eq_true]

/-! ### Highest -/
def st39 (B : Hp) (x : Nat × Int × Nat) : St := ⟨[(0, .int .u64 x.1), (3, .int .i64 x.2.1), (4, .int .u64 x.2.2)], [], [], B⟩

set_option maxRecDepth 10000 in
theorem body39_end (C : Callees) (v : Nat) (n : Int) (B : Hp) :
    ∃ ρ, go T an39 C lp39_0 .top (st39 B (v, n, 0)) = some (.exit 0, ⟨ρ, [], [], B⟩) ∧ get ρ 0 = .int .u64 v ∧ get ρ 3 = .int .i64 n := by
  have h : ¬ ((0 : Nat) : Int) > 0 := by decide
  simp only [st39, lp39_0, subC, atC, Tryd.f39, an39, h, T3, T49, T62, e_seq, e_region, e_dyn, e_dynS, stepD, accs, accP, accW, simpleOp, isAl, isExt, flipD, D.fresh1, D.row, D.plain, D.plain.plainL, St.close, St.close1, St.borrow, List.flatten_cons, List.flatten_nil, e_block, e_cond, e_ret, e_skip, e_exit, e_plain, e_guard, e_nil, e_op, e_ifT, e_ifF, e_true, e_false, e_loop, e_l, e_top, e_seqN, e_seqE, e_seqR, e_blockN, e_blockR, e_blockE,
    begin_f, begin_t, end_f, e_finN, e_finX, e_finR, retV, resV, resL, outCL, outC, outL, outD, wantedV, opV, An.mid, thawV, D.plainU, prune, List.map_cons, List.map_nil, envOf, get, put, eval, evalT, nz, argsV, capsV, ofV, nbeq, nble, binV, binV.aggV, unV, intV, eqOp, isConst, natV, optV, loadV, loadC, storeV, setC, St.at_, partV, partTy, indexAddrV, fieldAddrV, sliceV, sliceV.rowSl, sliceV.strSl, bounds, cutP,
    builtinV, lenV, maxL, maxV, appendV, St.elems, roomy, rowOf, rowS, isStr, esz, tdOf, convV, buildV, fillV, partsV, okParts, fillL, D.whole, D.demoteC, D.demote, demoteL, D.global, D.flat, D.leaf, D.cells, TI.agg, TD.rowish, callOpV, moveL, CC, keepB, St.borrowL, St.borrow, D.isLsl, adoptR, adoptC, adoptCL, adoptL, adopt,
    List.toArray, Array.toList, List.length_cons, List.length_nil, List.length_map, List.length_append, List.length_replicate, List.replicate_succ, List.replicate_zero, List.replicate_one, ← List.map_take, ← List.map_drop, List.isEmpty_cons, List.isEmpty_nil, List.drop_zero, List.take_succ_cons, List.take_zero, List.take_nil, List.drop_succ_cons, List.drop_nil, Nat.zero_le, Nat.le_refl, Nat.sub_zero, List.getElem?_cons_succ, List.getElem?_cons_zero, List.getElem?_nil, List.any_cons, List.any_nil, List.all_cons, List.all_nil, List.append_nil, List.nil_append, List.cons_append, List.set_cons_zero, List.set_cons_succ,
    cond_true, cond_false, decide_true, decide_false, Bool.true_and, Bool.and_true, Bool.false_and, Bool.and_false, Bool.true_or, Bool.or_true, Bool.false_or, Bool.or_false, Bool.not_true, Bool.not_false, Bool.and_self, Bool.or_self, bT, bF, ieq, ine, decide_eq_true_eq, decide_not,
    Nat.reduceEqDiff, Nat.reduceAdd, Nat.reduceSub, Nat.reduceMul, Nat.reduceLeDiff, Nat.reduceLT, Nat.zero_add, Nat.add_zero, Option.getD_some, Option.getD_none, Option.isSome_some, Option.isSome_none, reduceIte, reduceCtorEq, and_self, and_true, true_and, not_true_eq_false, not_false_eq_true, false_imp_iff, forall_const, imp_self,
    Int.reduceNeg, Int.reduceLT, Int.reduceLE, Int.reduceGT, Int.reduceGE, Int.reduceAdd, Int.reduceSub, Int.reduceMul, Int.reduceToNat, Int.reduceEq, ne_eq, eq_self, beq_self_eq_true]
  exact ⟨_, rfl, rfl, rfl⟩

set_option maxRecDepth 10000 in
theorem body39_ok (C : Callees) (v : Nat) (n : Int) (s : Nat) (B : Hp) (hs : 0 < s) (h32 : s ≤ 32) (hn : -1 ≤ n) (hn2 : n ≤ 1000) :
    ∃ st', go T an39 C lp39_0 .top (st39 B (v, n, s)) = some (.norm, st') ∧ an39.at_ (some 3) st' =
      st39 B (if 2 ^ s ≤ v then v / 2 ^ s else v, if 2 ^ s ≤ v then n + s else n, s / 2) := by
  have h1 : (s : Int) > 0 := by omega
  have h2 := shr_nat .u64 v s (by show s ≤ 64; omega)
  have h3 : shrV .u64 (s : Int) 1 = ((s / 2 : Nat) : Int) := shr_nat .u64 s 1 (by decide)
  have h4 : IntKind.i64.wrap (s : Int) = s := wrapI (by omega) (by omega)
  have h5 : IntKind.i64.wrap (n + s) = n + s := wrapI (by omega) (by omega)
  have h0 : ¬ (s : Int) < 0 := by omega
  by_cases hv : 2 ^ s ≤ v
  · have h6 : 0 < v / 2 ^ s := Nat.div_pos hv (Nat.pow_pos (by decide))
    generalize v / 2 ^ s = w at h2 h6 ⊢
    have h7 : ¬ (w : Int) = 0 := by omega
    rw [if_pos hv, if_pos hv]
    simp only [st39, lp39_0, subC, atC, Tryd.f39, an39, h0, h1, h2, h3, h4, h5, h7, T3, T49, T62, e_seq, e_region, e_dyn, e_dynS, stepD, accs, accP, accW, simpleOp, isAl, isExt, flipD, D.fresh1, D.row, D.plain, D.plain.plainL, St.close, St.close1, St.borrow, List.flatten_cons, List.flatten_nil, e_block, e_cond, e_ret, e_skip, e_exit, e_plain, e_guard, e_nil, e_op, e_ifT, e_ifF, e_true, e_false, e_loop, e_l, e_top, e_seqN, e_seqE, e_seqR, e_blockN, e_blockR, e_blockE,
    begin_f, begin_t, end_f, e_finN, e_finX, e_finR, retV, resV, resL, outCL, outC, outL, outD, wantedV, opV, An.mid, thawV, D.plainU, prune, List.map_cons, List.map_nil, envOf, get, put, eval, evalT, nz, argsV, capsV, ofV, nbeq, nble, binV, binV.aggV, unV, intV, eqOp, isConst, natV, optV, loadV, loadC, storeV, setC, St.at_, partV, partTy, indexAddrV, fieldAddrV, sliceV, sliceV.rowSl, sliceV.strSl, bounds, cutP,
    builtinV, lenV, maxL, maxV, appendV, St.elems, roomy, rowOf, rowS, isStr, esz, tdOf, convV, buildV, fillV, partsV, okParts, fillL, D.whole, D.demoteC, D.demote, demoteL, D.global, D.flat, D.leaf, D.cells, TI.agg, TD.rowish, callOpV, moveL, CC, keepB, St.borrowL, St.borrow, D.isLsl, adoptR, adoptC, adoptCL, adoptL, adopt,
    List.toArray, Array.toList, List.length_cons, List.length_nil, List.length_map, List.length_append, List.length_replicate, List.replicate_succ, List.replicate_zero, List.replicate_one, ← List.map_take, ← List.map_drop, List.isEmpty_cons, List.isEmpty_nil, List.drop_zero, List.take_succ_cons, List.take_zero, List.take_nil, List.drop_succ_cons, List.drop_nil, Nat.zero_le, Nat.le_refl, Nat.sub_zero, List.getElem?_cons_succ, List.getElem?_cons_zero, List.getElem?_nil, List.any_cons, List.any_nil, List.all_cons, List.all_nil, List.append_nil, List.nil_append, List.cons_append, List.set_cons_zero, List.set_cons_succ,
    cond_true, cond_false, decide_true, decide_false, Bool.true_and, Bool.and_true, Bool.false_and, Bool.and_false, Bool.true_or, Bool.or_true, Bool.false_or, Bool.or_false, Bool.not_true, Bool.not_false, Bool.and_self, Bool.or_self, bT, bF, ieq, ine, decide_eq_true_eq, decide_not,
    Nat.reduceEqDiff, Nat.reduceAdd, Nat.reduceSub, Nat.reduceMul, Nat.reduceLeDiff, Nat.reduceLT, Nat.zero_add, Nat.add_zero, Option.getD_some, Option.getD_none, Option.isSome_some, Option.isSome_none, reduceIte, reduceCtorEq, and_self, and_true, true_and, not_true_eq_false, not_false_eq_true, false_imp_iff, forall_const, imp_self,
    Int.reduceNeg, Int.reduceLT, Int.reduceLE, Int.reduceGT, Int.reduceGE, Int.reduceAdd, Int.reduceSub, Int.reduceMul, Int.reduceToNat, Int.reduceEq, ne_eq, eq_self, beq_self_eq_true]
    exact ⟨_, rfl, rfl⟩
  · have h6 : v / 2 ^ s = 0 := Nat.div_eq_of_lt (by omega)
    rw [if_neg hv, if_neg hv]
    rw [h6] at h2
    have h2 : shrV .u64 (v : Int) s = 0 := h2
    simp only [st39, lp39_0, subC, atC, Tryd.f39, an39, h0, h1, h2, h3, h4, h5, T3, T49, T62, e_seq, e_region, e_dyn, e_dynS, stepD, accs, accP, accW, simpleOp, isAl, isExt, flipD, D.fresh1, D.row, D.plain, D.plain.plainL, St.close, St.close1, St.borrow, List.flatten_cons, List.flatten_nil, e_block, e_cond, e_ret, e_skip, e_exit, e_plain, e_guard, e_nil, e_op, e_ifT, e_ifF, e_true, e_false, e_loop, e_l, e_top, e_seqN, e_seqE, e_seqR, e_blockN, e_blockR, e_blockE,
    begin_f, begin_t, end_f, e_finN, e_finX, e_finR, retV, resV, resL, outCL, outC, outL, outD, wantedV, opV, An.mid, thawV, D.plainU, prune, List.map_cons, List.map_nil, envOf, get, put, eval, evalT, nz, argsV, capsV, ofV, nbeq, nble, binV, binV.aggV, unV, intV, eqOp, isConst, natV, optV, loadV, loadC, storeV, setC, St.at_, partV, partTy, indexAddrV, fieldAddrV, sliceV, sliceV.rowSl, sliceV.strSl, bounds, cutP,
    builtinV, lenV, maxL, maxV, appendV, St.elems, roomy, rowOf, rowS, isStr, esz, tdOf, convV, buildV, fillV, partsV, okParts, fillL, D.whole, D.demoteC, D.demote, demoteL, D.global, D.flat, D.leaf, D.cells, TI.agg, TD.rowish, callOpV, moveL, CC, keepB, St.borrowL, St.borrow, D.isLsl, adoptR, adoptC, adoptCL, adoptL, adopt,
    List.toArray, Array.toList, List.length_cons, List.length_nil, List.length_map, List.length_append, List.length_replicate, List.replicate_succ, List.replicate_zero, List.replicate_one, ← List.map_take, ← List.map_drop, List.isEmpty_cons, List.isEmpty_nil, List.drop_zero, List.take_succ_cons, List.take_zero, List.take_nil, List.drop_succ_cons, List.drop_nil, Nat.zero_le, Nat.le_refl, Nat.sub_zero, List.getElem?_cons_succ, List.getElem?_cons_zero, List.getElem?_nil, List.any_cons, List.any_nil, List.all_cons, List.all_nil, List.append_nil, List.nil_append, List.cons_append, List.set_cons_zero, List.set_cons_succ,
    cond_true, cond_false, decide_true, decide_false, Bool.true_and, Bool.and_true, Bool.false_and, Bool.and_false, Bool.true_or, Bool.or_true, Bool.false_or, Bool.or_false, Bool.not_true, Bool.not_false, Bool.and_self, Bool.or_self, bT, bF, ieq, ine, decide_eq_true_eq, decide_not,
    Nat.reduceEqDiff, Nat.reduceAdd, Nat.reduceSub, Nat.reduceMul, Nat.reduceLeDiff, Nat.reduceLT, Nat.zero_add, Nat.add_zero, Option.getD_some, Option.getD_none, Option.isSome_some, Option.isSome_none, reduceIte, reduceCtorEq, and_self, and_true, true_and, not_true_eq_false, not_false_eq_true, false_imp_iff, forall_const, imp_self,
    Int.reduceNeg, Int.reduceLT, Int.reduceLE, Int.reduceGT, Int.reduceGE, Int.reduceAdd, Int.reduceSub, Int.reduceMul, Int.reduceToNat, Int.reduceEq, ne_eq, eq_self, beq_self_eq_true]
    exact ⟨_, rfl, rfl⟩

theorem loop39 (C : Callees) (B : Hp) : ∀ (m v : Nat) (n : Int) (st : St), v < 2 ^ 2 ^ m → m ≤ 6 → -1 ≤ n → n + 2 ^ m ≤ 70 → an39.at_ (some 3) st = st39 B (v, n, 2 ^ m / 2) →
    ∃ x st', loopC T an39 C lp39_0 st = some (x, st') ∧ ∃ (ρ : Env) (w : Nat) (k : Int), st' = ⟨ρ, [], [], B⟩ ∧ x = .exit 0 ∧ get ρ 0 = .int .u64 w ∧ get ρ 3 = .int .i64 k ∧ w < 2 ∧ -1 ≤ k ∧ k ≤ 70 ∧ k + w = n + bitsN v := by
  intro m
  induction m with
  | zero =>
    intro v n st hv _ hn hn2 hst
    obtain ⟨ρ, h, hg1, hg2⟩ := body39_end C v n B
    have hv2 : v < 2 := hv
    refine ⟨_, _, loopC_done (by rw [show firstOf lp39_0 = some 3 from rfl, hst]; exact h) (by simp), ρ, v, n, rfl, rfl, hg1, hg2, hv2, hn, by omega, ?_⟩
    rcases (by omega : v = 0 ∨ v = 1) with rfl | rfl
    · rw [bitsN_zero]
    · rw [bitsN_one]
  | succ m ih =>
    intro v n st hv hm hn hn2 hst
    have hp : (2 : Nat) ^ (m + 1) / 2 = 2 ^ m := by rw [Nat.pow_succ]; omega
    have hp1 : 0 < (2 : Nat) ^ m := Nat.pow_pos (by decide)
    have hp2 : (2 : Nat) ^ m ≤ 2 ^ 5 := Nat.pow_le_pow_right (by decide) (by omega)
    have hp3 : ((2 ^ m : Nat) : Int) = 2 ^ m := by rw [Int.natCast_pow]; rfl
    have hn3 : n + 2 * 2 ^ m ≤ 70 := by rw [Int.pow_succ] at hn2; omega
    rw [hp] at hst
    obtain ⟨st2, h, hg⟩ := body39_ok C v n (2 ^ m) B hp1 (by omega) hn (by omega)
    have hv' : v < 2 ^ 2 ^ m * 2 ^ 2 ^ m := by
      rw [← Nat.pow_add, ← Nat.two_mul, Nat.mul_comm, ← Nat.pow_succ]; exact hv
    obtain ⟨x, st', h4, ρ', w, k, h5, h6, h7, h8, h9, h10, h11, h12⟩ := ih (if 2 ^ 2 ^ m ≤ v then v / 2 ^ 2 ^ m else v) (if 2 ^ 2 ^ m ≤ v then n + (2 ^ m : Nat) else n) st2
      (by split
          · exact Nat.div_lt_of_lt_mul hv'
          · omega) (by omega) (by split <;> omega) (by split <;> omega) hg
    refine ⟨x, st', loopC_next (by rw [show firstOf lp39_0 = some 3 from rfl, hst]; exact h) h4, ρ', w, k, h5, h6, h7, h8, h9, h10, h11, ?_⟩
    rw [h12]
    by_cases hb : 2 ^ 2 ^ m ≤ v
    · rw [if_pos hb, if_pos hb, bitsN_div hb]; omega
    · rw [if_neg hb, if_neg hb]

set_option maxRecDepth 10000 in
theorem run39 (C : Callees) (v : Nat) (hv : v < 18446744073709551616) (B : Hp) : runV T C fi39 [.int .u64 v] B = some (.int .i64 ((bitsN v : Int) - 1), B) := by
  rw [e_run _ _ _ rfl]
  simp only [fi39, Tryd.f39, an39, T3, T49, T62, e_seq, e_region, e_dyn, e_dynS, stepD, accs, accP, accW, simpleOp, isAl, isExt, flipD, D.fresh1, D.row, D.plain, D.plain.plainL, St.close, St.close1, St.borrow, List.flatten_cons, List.flatten_nil, e_block, e_cond, e_ret, e_skip, e_exit, e_plain, e_guard, e_nil, e_op, e_ifT, e_ifF, e_true, e_false, e_loop, e_l, e_top, e_seqN, e_seqE, e_seqR, e_blockN, e_blockR, e_blockE,
    begin_f, begin_t, end_f, e_finN, e_finX, e_finR, retV, resV, resL, outCL, outC, outL, outD, wantedV, opV, An.mid, thawV, D.plainU, prune, List.map_cons, List.map_nil, envOf, get, put, eval, evalT, nz, argsV, capsV, ofV, nbeq, nble, binV, binV.aggV, unV, intV, eqOp, isConst, natV, optV, loadV, loadC, storeV, setC, St.at_, partV, partTy, indexAddrV, fieldAddrV, sliceV, sliceV.rowSl, sliceV.strSl, bounds, cutP,
    builtinV, lenV, maxL, maxV, appendV, St.elems, roomy, rowOf, rowS, isStr, esz, tdOf, convV, buildV, fillV, partsV, okParts, fillL, D.whole, D.demoteC, D.demote, demoteL, D.global, D.flat, D.leaf, D.cells, TI.agg, TD.rowish, callOpV, moveL, CC, keepB, St.borrowL, St.borrow, D.isLsl, adoptR, adoptC, adoptCL, adoptL, adopt,
    List.toArray, Array.toList, List.length_cons, List.length_nil, List.length_map, List.length_append, List.length_replicate, List.replicate_succ, List.replicate_zero, List.replicate_one, ← List.map_take, ← List.map_drop, List.isEmpty_cons, List.isEmpty_nil, List.drop_zero, List.take_succ_cons, List.take_zero, List.take_nil, List.drop_succ_cons, List.drop_nil, Nat.zero_le, Nat.le_refl, Nat.sub_zero, List.getElem?_cons_succ, List.getElem?_cons_zero, List.getElem?_nil, List.any_cons, List.any_nil, List.all_cons, List.all_nil, List.append_nil, List.nil_append, List.cons_append, List.set_cons_zero, List.set_cons_succ,
    cond_true, cond_false, decide_true, decide_false, Bool.true_and, Bool.and_true, Bool.false_and, Bool.and_false, Bool.true_or, Bool.or_true, Bool.false_or, Bool.or_false, Bool.not_true, Bool.not_false, Bool.and_self, Bool.or_self, bT, bF, ieq, ine, decide_eq_true_eq, decide_not,
    Nat.reduceEqDiff, Nat.reduceAdd, Nat.reduceSub, Nat.reduceMul, Nat.reduceLeDiff, Nat.reduceLT, Nat.zero_add, Nat.add_zero, Option.getD_some, Option.getD_none, Option.isSome_some, Option.isSome_none, reduceIte, reduceCtorEq, and_self, and_true, true_and, not_true_eq_false, not_false_eq_true, false_imp_iff, forall_const, imp_self,
    Int.reduceNeg, Int.reduceLT, Int.reduceLE, Int.reduceGT, Int.reduceGE, Int.reduceAdd, Int.reduceSub, Int.reduceMul, Int.reduceToNat, Int.reduceEq, ne_eq, eq_self, beq_self_eq_true]
  refine' in_loop (c' := lp39_0) (fin T _ _ _) ?h rfl ?q
  case h => exact loop39 C B 6 v (-1) _ hv (by omega) (by omega) (by decide) rfl
  rintro x st' ⟨ρ, w, k, rfl, rfl, hg1, hg2, hw, hk, hk2, hsum⟩
  have h1 : IntKind.i64.wrap (w : Int) = w := wrapI (by omega) (by omega)
  have h2 : IntKind.i64.wrap (k + w) = (bitsN v : Int) - 1 := by rw [wrapI (by omega) (by omega)]; omega
  simp only [hg1, hg2, h1, h2, T3, T49, T62, e_seq, e_region, e_dyn, e_dynS, stepD, accs, accP, accW, simpleOp, isAl, isExt, flipD, D.fresh1, D.row, D.plain, D.plain.plainL, St.close, St.close1, St.borrow, List.flatten_cons, List.flatten_nil, e_block, e_cond, e_ret, e_skip, e_exit, e_plain, e_guard, e_nil, e_op, e_ifT, e_ifF, e_true, e_false, e_loop, e_l, e_top, e_seqN, e_seqE, e_seqR, e_blockN, e_blockR, e_blockE,
    begin_f, begin_t, end_f, e_finN, e_finX, e_finR, retV, resV, resL, outCL, outC, outL, outD, wantedV, opV, An.mid, thawV, D.plainU, prune, List.map_cons, List.map_nil, envOf, get, put, eval, evalT, nz, argsV, capsV, ofV, nbeq, nble, binV, binV.aggV, unV, intV, eqOp, isConst, natV, optV, loadV, loadC, storeV, setC, St.at_, partV, partTy, indexAddrV, fieldAddrV, sliceV, sliceV.rowSl, sliceV.strSl, bounds, cutP,
    builtinV, lenV, maxL, maxV, appendV, St.elems, roomy, rowOf, rowS, isStr, esz, tdOf, convV, buildV, fillV, partsV, okParts, fillL, D.whole, D.demoteC, D.demote, demoteL, D.global, D.flat, D.leaf, D.cells, TI.agg, TD.rowish, callOpV, moveL, CC, keepB, St.borrowL, St.borrow, D.isLsl, adoptR, adoptC, adoptCL, adoptL, adopt,
    List.toArray, Array.toList, List.length_cons, List.length_nil, List.length_map, List.length_append, List.length_replicate, List.replicate_succ, List.replicate_zero, List.replicate_one, ← List.map_take, ← List.map_drop, List.isEmpty_cons, List.isEmpty_nil, List.drop_zero, List.take_succ_cons, List.take_zero, List.take_nil, List.drop_succ_cons, List.drop_nil, Nat.zero_le, Nat.le_refl, Nat.sub_zero, List.getElem?_cons_succ, List.getElem?_cons_zero, List.getElem?_nil, List.any_cons, List.any_nil, List.all_cons, List.all_nil, List.append_nil, List.nil_append, List.cons_append, List.set_cons_zero, List.set_cons_succ,
    cond_true, cond_false, decide_true, decide_false, Bool.true_and, Bool.and_true, Bool.false_and, Bool.and_false, Bool.true_or, Bool.or_true, Bool.false_or, Bool.or_false, Bool.not_true, Bool.not_false, Bool.and_self, Bool.or_self, bT, bF, ieq, ine, decide_eq_true_eq, decide_not,
    Nat.reduceEqDiff, Nat.reduceAdd, Nat.reduceSub, Nat.reduceMul, Nat.reduceLeDiff, Nat.reduceLT, Nat.zero_add, Nat.add_zero, Option.getD_some, Option.getD_none, Option.isSome_some, Option.isSome_none, reduceIte, reduceCtorEq, and_self, and_true, true_and, not_true_eq_false, not_false_eq_true, false_imp_iff, forall_const, imp_self,
    Int.reduceNeg, Int.reduceLT, Int.reduceLE, Int.reduceGT, Int.reduceGE, Int.reduceAdd, Int.reduceSub, Int.reduceMul, Int.reduceToNat, Int.reduceEq, ne_eq, eq_self, beq_self_eq_true]

/-! ### Lowest -/
/-- The place of the lowest bit, or -1. -/
def lowS (v : Nat) : Int := if v = 0 then -1 else ctzN v

set_option maxRecDepth 10000 in
theorem run37 (C : Callees) (hC : Lib01B C) (v : Nat) (hv : v < 18446744073709551616) (B : Hp) : runV T C fi37 [.int .u64 v] B = some (.int .i64 (lowS v), B) := by
  rw [e_run _ _ _ rfl]
  unfold lowS
  by_cases h0 : v = 0
  · subst h0
    rw [if_pos rfl]
    have g1 : ∀ B, C 39 [.int .u64 (0 : Nat)] B = some (.int .i64 (-1), B) := fun B => hC.f39 _ _ _ (run39 C 0 (by decide) B)
    have g2 : IntKind.u64.wrap (0 - ((0 : Nat) : Int)) = 0 := rfl
    have g3 : bitsV .and .u64 ((0 : Nat) : Int) 0 = ((0 : Nat) : Int) := rfl
    simp only [fi37, Tryd.f37, an37, g1, g2, g3, T49, e_seq, e_region, e_dyn, e_dynS, stepD, accs, accP, accW, simpleOp, isAl, isExt, flipD, D.fresh1, D.row, D.plain, D.plain.plainL, St.close, St.close1, St.borrow, List.flatten_cons, List.flatten_nil, e_block, e_cond, e_ret, e_skip, e_exit, e_plain, e_guard, e_nil, e_op, e_ifT, e_ifF, e_true, e_false, e_loop, e_l, e_top, e_seqN, e_seqE, e_seqR, e_blockN, e_blockR, e_blockE,
    begin_f, begin_t, end_f, e_finN, e_finX, e_finR, retV, resV, resL, outCL, outC, outL, outD, wantedV, opV, An.mid, thawV, D.plainU, prune, List.map_cons, List.map_nil, envOf, get, put, eval, evalT, nz, argsV, capsV, ofV, nbeq, nble, binV, binV.aggV, unV, intV, eqOp, isConst, natV, optV, loadV, loadC, storeV, setC, St.at_, partV, partTy, indexAddrV, fieldAddrV, sliceV, sliceV.rowSl, sliceV.strSl, bounds, cutP,
    builtinV, lenV, maxL, maxV, appendV, St.elems, roomy, rowOf, rowS, isStr, esz, tdOf, convV, buildV, fillV, partsV, okParts, fillL, D.whole, D.demoteC, D.demote, demoteL, D.global, D.flat, D.leaf, D.cells, TI.agg, TD.rowish, callOpV, moveL, CC, keepB, St.borrowL, St.borrow, D.isLsl, adoptR, adoptC, adoptCL, adoptL, adopt,
    List.toArray, Array.toList, List.length_cons, List.length_nil, List.length_map, List.length_append, List.length_replicate, List.replicate_succ, List.replicate_zero, List.replicate_one, ← List.map_take, ← List.map_drop, List.isEmpty_cons, List.isEmpty_nil, List.drop_zero, List.take_succ_cons, List.take_zero, List.take_nil, List.drop_succ_cons, List.drop_nil, Nat.zero_le, Nat.le_refl, Nat.sub_zero, List.getElem?_cons_succ, List.getElem?_cons_zero, List.getElem?_nil, List.any_cons, List.any_nil, List.all_cons, List.all_nil, List.append_nil, List.nil_append, List.cons_append, List.set_cons_zero, List.set_cons_succ,
    cond_true, cond_false, decide_true, decide_false, Bool.true_and, Bool.and_true, Bool.false_and, Bool.and_false, Bool.true_or, Bool.or_true, Bool.false_or, Bool.or_false, Bool.not_true, Bool.not_false, Bool.and_self, Bool.or_self, bT, bF, ieq, ine, decide_eq_true_eq, decide_not,
    Nat.reduceEqDiff, Nat.reduceAdd, Nat.reduceSub, Nat.reduceMul, Nat.reduceLeDiff, Nat.reduceLT, Nat.zero_add, Nat.add_zero, Option.getD_some, Option.getD_none, Option.isSome_some, Option.isSome_none, reduceIte, reduceCtorEq, and_self, and_true, true_and, not_true_eq_false, not_false_eq_true, false_imp_iff, forall_const, imp_self,
    Int.reduceNeg, Int.reduceLT, Int.reduceLE, Int.reduceGT, Int.reduceGE, Int.reduceAdd, Int.reduceSub, Int.reduceMul, Int.reduceToNat, Int.reduceEq, ne_eq, eq_self, beq_self_eq_true]
  · rw [if_neg h0]
    have hl := low_bit 64 v (by omega) hv
    have hlt := ctz_lt v (by omega)
    have hb := bitsN_64 hv
    have hp := pow_lt (x := ctzN v) (by omega)
    have g2 : IntKind.u64.wrap (0 - (v : Int)) = ((18446744073709551616 - v : Nat) : Int) := by rw [wrap_u64_mod]; omega
    have g3 := u64_and v (18446744073709551616 - v) hv (by omega)
    have hl : v &&& (18446744073709551616 - v) = 2 ^ ctzN v := hl
    rw [hl] at g3
    have g1 : ∀ B, C 39 [.int .u64 (2 ^ ctzN v : Nat)] B = some (.int .i64 (ctzN v : Nat), B) := fun B => by
      rw [hC.f39 _ _ _ (run39 C _ hp B), bitsN_pow]
      congr 3; omega
    simp only [fi37, Tryd.f37, an37, g1, g2, g3, T49, e_seq, e_region, e_dyn, e_dynS, stepD, accs, accP, accW, simpleOp, isAl, isExt, flipD, D.fresh1, D.row, D.plain, D.plain.plainL, St.close, St.close1, St.borrow, List.flatten_cons, List.flatten_nil, e_block, e_cond, e_ret, e_skip, e_exit, e_plain, e_guard, e_nil, e_op, e_ifT, e_ifF, e_true, e_false, e_loop, e_l, e_top, e_seqN, e_seqE, e_seqR, e_blockN, e_blockR, e_blockE,
    begin_f, begin_t, end_f, e_finN, e_finX, e_finR, retV, resV, resL, outCL, outC, outL, outD, wantedV, opV, An.mid, thawV, D.plainU, prune, List.map_cons, List.map_nil, envOf, get, put, eval, evalT, nz, argsV, capsV, ofV, nbeq, nble, binV, binV.aggV, unV, intV, eqOp, isConst, natV, optV, loadV, loadC, storeV, setC, St.at_, partV, partTy, indexAddrV, fieldAddrV, sliceV, sliceV.rowSl, sliceV.strSl, bounds, cutP,
    builtinV, lenV, maxL, maxV, appendV, St.elems, roomy, rowOf, rowS, isStr, esz, tdOf, convV, buildV, fillV, partsV, okParts, fillL, D.whole, D.demoteC, D.demote, demoteL, D.global, D.flat, D.leaf, D.cells, TI.agg, TD.rowish, callOpV, moveL, CC, keepB, St.borrowL, St.borrow, D.isLsl, adoptR, adoptC, adoptCL, adoptL, adopt,
    List.toArray, Array.toList, List.length_cons, List.length_nil, List.length_map, List.length_append, List.length_replicate, List.replicate_succ, List.replicate_zero, List.replicate_one, ← List.map_take, ← List.map_drop, List.isEmpty_cons, List.isEmpty_nil, List.drop_zero, List.take_succ_cons, List.take_zero, List.take_nil, List.drop_succ_cons, List.drop_nil, Nat.zero_le, Nat.le_refl, Nat.sub_zero, List.getElem?_cons_succ, List.getElem?_cons_zero, List.getElem?_nil, List.any_cons, List.any_nil, List.all_cons, List.all_nil, List.append_nil, List.nil_append, List.cons_append, List.set_cons_zero, List.set_cons_succ,
    cond_true, cond_false, decide_true, decide_false, Bool.true_and, Bool.and_true, Bool.false_and, Bool.and_false, Bool.true_or, Bool.or_true, Bool.false_or, Bool.or_false, Bool.not_true, Bool.not_false, Bool.and_self, Bool.or_self, bT, bF, ieq, ine, decide_eq_true_eq, decide_not,
    Nat.reduceEqDiff, Nat.reduceAdd, Nat.reduceSub, Nat.reduceMul, Nat.reduceLeDiff, Nat.reduceLT, Nat.zero_add, Nat.add_zero, Option.getD_some, Option.getD_none, Option.isSome_some, Option.isSome_none, reduceIte, reduceCtorEq, and_self, and_true, true_and, not_true_eq_false, not_false_eq_true, false_imp_iff, forall_const, imp_self,
    Int.reduceNeg, Int.reduceLT, Int.reduceLE, Int.reduceGT, Int.reduceGE, Int.reduceAdd, Int.reduceSub, Int.reduceMul, Int.reduceToNat, Int.reduceEq, ne_eq, eq_self, beq_self_eq_true]

def st38 (B : Hp) (x : Nat × Nat) : St := ⟨[(0, .int .u64 x.1), (3, .int .i64 x.2)], [], [], B⟩

set_option maxRecDepth 10000 in
theorem loop38 (C : Callees) (B : Hp) (v : Nat) (h0 : 0 < v) (hv : v < 18446744073709551616) (st : St) (hst : an38.at_ (some 4) st = st38 B (v, 0)) :
    ∃ x st', loopC T an38 C lp38_0 st = some (x, st') ∧ ∃ ρ, st' = ⟨ρ, [], [], B⟩ ∧ x = .exit 0 ∧ get ρ 3 = .int .i64 (ctzN v : Nat) := by
  have hb := bitsN_64 hv
  have hl := ctz_lt v h0
  refine loop_rule (st38 B) (fun x => 0 < x.1 ∧ x.1 ≤ v ∧ x.2 + ctzN x.1 = ctzN v) (fun x => x.1) (fun x st' => ∃ ρ, st' = ⟨ρ, [], [], B⟩ ∧ x = .exit 0 ∧ get ρ 3 = .int .i64 (ctzN v : Nat)) ?_ (v, 0) st hst ⟨h0, Nat.le_refl _, by simp⟩
  rintro ⟨u, n⟩ ⟨hu, h1, h2⟩
  simp only at hu h1 h2
  have g1 := tmod2 u
  rcases Nat.mod_two_eq_zero_or_one u with hm | hm
  · left
    rw [hm] at g1
    have g1 : (u : Int).tmod 2 = 0 := g1
    have g2 := tdiv2 u
    have g3 : IntKind.u64.wrap ((u / 2 : Nat) : Int) = ((u / 2 : Nat) : Int) := wrap_u64 (by omega) (by omega)
    have h3 := ctz_even hu hm
    have g4 : IntKind.i64.wrap ((n : Int) + 1) = ((n + 1 : Nat) : Int) := by rw [wrapI (by omega) (by omega)]; rfl
    refine ⟨(u / 2, n + 1), ?_, ⟨by show 0 < u / 2; omega, by show u / 2 ≤ v; omega, by show n + 1 + ctzN (u / 2) = ctzN v; omega⟩, Nat.div_lt_self hu (by omega)⟩
    simp only [st38, lp38_0, subC, atC, Tryd.f38, an38, g1, g2, g3, g4, T3, T49, e_seq, e_region, e_dyn, e_dynS, stepD, accs, accP, accW, simpleOp, isAl, isExt, flipD, D.fresh1, D.row, D.plain, D.plain.plainL, St.close, St.close1, St.borrow, List.flatten_cons, List.flatten_nil, e_block, e_cond, e_ret, e_skip, e_exit, e_plain, e_guard, e_nil, e_op, e_ifT, e_ifF, e_true, e_false, e_loop, e_l, e_top, e_seqN, e_seqE, e_seqR, e_blockN, e_blockR, e_blockE,
    begin_f, begin_t, end_f, e_finN, e_finX, e_finR, retV, resV, resL, outCL, outC, outL, outD, wantedV, opV, An.mid, thawV, D.plainU, prune, List.map_cons, List.map_nil, envOf, get, put, eval, evalT, nz, argsV, capsV, ofV, nbeq, nble, binV, binV.aggV, unV, intV, eqOp, isConst, natV, optV, loadV, loadC, storeV, setC, St.at_, partV, partTy, indexAddrV, fieldAddrV, sliceV, sliceV.rowSl, sliceV.strSl, bounds, cutP,
    builtinV, lenV, maxL, maxV, appendV, St.elems, roomy, rowOf, rowS, isStr, esz, tdOf, convV, buildV, fillV, partsV, okParts, fillL, D.whole, D.demoteC, D.demote, demoteL, D.global, D.flat, D.leaf, D.cells, TI.agg, TD.rowish, callOpV, moveL, CC, keepB, St.borrowL, St.borrow, D.isLsl, adoptR, adoptC, adoptCL, adoptL, adopt,
    List.toArray, Array.toList, List.length_cons, List.length_nil, List.length_map, List.length_append, List.length_replicate, List.replicate_succ, List.replicate_zero, List.replicate_one, ← List.map_take, ← List.map_drop, List.isEmpty_cons, List.isEmpty_nil, List.drop_zero, List.take_succ_cons, List.take_zero, List.take_nil, List.drop_succ_cons, List.drop_nil, Nat.zero_le, Nat.le_refl, Nat.sub_zero, List.getElem?_cons_succ, List.getElem?_cons_zero, List.getElem?_nil, List.any_cons, List.any_nil, List.all_cons, List.all_nil, List.append_nil, List.nil_append, List.cons_append, List.set_cons_zero, List.set_cons_succ,
    cond_true, cond_false, decide_true, decide_false, Bool.true_and, Bool.and_true, Bool.false_and, Bool.and_false, Bool.true_or, Bool.or_true, Bool.false_or, Bool.or_false, Bool.not_true, Bool.not_false, Bool.and_self, Bool.or_self, bT, bF, ieq, ine, decide_eq_true_eq, decide_not,
    Nat.reduceEqDiff, Nat.reduceAdd, Nat.reduceSub, Nat.reduceMul, Nat.reduceLeDiff, Nat.reduceLT, Nat.zero_add, Nat.add_zero, Option.getD_some, Option.getD_none, Option.isSome_some, Option.isSome_none, reduceIte, reduceCtorEq, and_self, and_true, true_and, not_true_eq_false, not_false_eq_true, false_imp_iff, forall_const, imp_self,
    Int.reduceNeg, Int.reduceLT, Int.reduceLE, Int.reduceGT, Int.reduceGE, Int.reduceAdd, Int.reduceSub, Int.reduceMul, Int.reduceToNat, Int.reduceEq, ne_eq, eq_self, beq_self_eq_true]
    exact ⟨_, rfl, rfl⟩
  · right
    rw [hm] at g1
    have g1 : (u : Int).tmod 2 = 1 := g1
    rw [ctz_odd hm] at h2
    simp only [st38, lp38_0, subC, atC, Tryd.f38, an38, g1, T3, T49, e_seq, e_region, e_dyn, e_dynS, stepD, accs, accP, accW, simpleOp, isAl, isExt, flipD, D.fresh1, D.row, D.plain, D.plain.plainL, St.close, St.close1, St.borrow, List.flatten_cons, List.flatten_nil, e_block, e_cond, e_ret, e_skip, e_exit, e_plain, e_guard, e_nil, e_op, e_ifT, e_ifF, e_true, e_false, e_loop, e_l, e_top, e_seqN, e_seqE, e_seqR, e_blockN, e_blockR, e_blockE,
    begin_f, begin_t, end_f, e_finN, e_finX, e_finR, retV, resV, resL, outCL, outC, outL, outD, wantedV, opV, An.mid, thawV, D.plainU, prune, List.map_cons, List.map_nil, envOf, get, put, eval, evalT, nz, argsV, capsV, ofV, nbeq, nble, binV, binV.aggV, unV, intV, eqOp, isConst, natV, optV, loadV, loadC, storeV, setC, St.at_, partV, partTy, indexAddrV, fieldAddrV, sliceV, sliceV.rowSl, sliceV.strSl, bounds, cutP,
    builtinV, lenV, maxL, maxV, appendV, St.elems, roomy, rowOf, rowS, isStr, esz, tdOf, convV, buildV, fillV, partsV, okParts, fillL, D.whole, D.demoteC, D.demote, demoteL, D.global, D.flat, D.leaf, D.cells, TI.agg, TD.rowish, callOpV, moveL, CC, keepB, St.borrowL, St.borrow, D.isLsl, adoptR, adoptC, adoptCL, adoptL, adopt,
    List.toArray, Array.toList, List.length_cons, List.length_nil, List.length_map, List.length_append, List.length_replicate, List.replicate_succ, List.replicate_zero, List.replicate_one, ← List.map_take, ← List.map_drop, List.isEmpty_cons, List.isEmpty_nil, List.drop_zero, List.take_succ_cons, List.take_zero, List.take_nil, List.drop_succ_cons, List.drop_nil, Nat.zero_le, Nat.le_refl, Nat.sub_zero, List.getElem?_cons_succ, List.getElem?_cons_zero, List.getElem?_nil, List.any_cons, List.any_nil, List.all_cons, List.all_nil, List.append_nil, List.nil_append, List.cons_append, List.set_cons_zero, List.set_cons_succ,
    cond_true, cond_false, decide_true, decide_false, Bool.true_and, Bool.and_true, Bool.false_and, Bool.and_false, Bool.true_or, Bool.or_true, Bool.false_or, Bool.or_false, Bool.not_true, Bool.not_false, Bool.and_self, Bool.or_self, bT, bF, ieq, ine, decide_eq_true_eq, decide_not,
    Nat.reduceEqDiff, Nat.reduceAdd, Nat.reduceSub, Nat.reduceMul, Nat.reduceLeDiff, Nat.reduceLT, Nat.zero_add, Nat.add_zero, Option.getD_some, Option.getD_none, Option.isSome_some, Option.isSome_none, reduceIte, reduceCtorEq, and_self, and_true, true_and, not_true_eq_false, not_false_eq_true, false_imp_iff, forall_const, imp_self,
    Int.reduceNeg, Int.reduceLT, Int.reduceLE, Int.reduceGT, Int.reduceGE, Int.reduceAdd, Int.reduceSub, Int.reduceMul, Int.reduceToNat, Int.reduceEq, ne_eq, eq_self, beq_self_eq_true]
    exact ⟨_, _, rfl, by simp, _, rfl, rfl, by rw [← h2]; rfl⟩

set_option maxRecDepth 10000 in
theorem run38 (C : Callees) (v : Nat) (hv : v < 18446744073709551616) (B : Hp) : runV T C fi38 [.int .u64 v] B = some (.int .i64 (lowS v), B) := by
  rw [e_run _ _ _ rfl]
  unfold lowS
  by_cases h0 : v = 0
  · subst h0
    rw [if_pos rfl]
    have h : ((0 : Nat) : Int) = 0 := rfl
    simp only [fi38, Tryd.f38, an38, h, T3, T49, e_seq, e_region, e_dyn, e_dynS, stepD, accs, accP, accW, simpleOp, isAl, isExt, flipD, D.fresh1, D.row, D.plain, D.plain.plainL, St.close, St.close1, St.borrow, List.flatten_cons, List.flatten_nil, e_block, e_cond, e_ret, e_skip, e_exit, e_plain, e_guard, e_nil, e_op, e_ifT, e_ifF, e_true, e_false, e_loop, e_l, e_top, e_seqN, e_seqE, e_seqR, e_blockN, e_blockR, e_blockE,
    begin_f, begin_t, end_f, e_finN, e_finX, e_finR, retV, resV, resL, outCL, outC, outL, outD, wantedV, opV, An.mid, thawV, D.plainU, prune, List.map_cons, List.map_nil, envOf, get, put, eval, evalT, nz, argsV, capsV, ofV, nbeq, nble, binV, binV.aggV, unV, intV, eqOp, isConst, natV, optV, loadV, loadC, storeV, setC, St.at_, partV, partTy, indexAddrV, fieldAddrV, sliceV, sliceV.rowSl, sliceV.strSl, bounds, cutP,
    builtinV, lenV, maxL, maxV, appendV, St.elems, roomy, rowOf, rowS, isStr, esz, tdOf, convV, buildV, fillV, partsV, okParts, fillL, D.whole, D.demoteC, D.demote, demoteL, D.global, D.flat, D.leaf, D.cells, TI.agg, TD.rowish, callOpV, moveL, CC, keepB, St.borrowL, St.borrow, D.isLsl, adoptR, adoptC, adoptCL, adoptL, adopt,
    List.toArray, Array.toList, List.length_cons, List.length_nil, List.length_map, List.length_append, List.length_replicate, List.replicate_succ, List.replicate_zero, List.replicate_one, ← List.map_take, ← List.map_drop, List.isEmpty_cons, List.isEmpty_nil, List.drop_zero, List.take_succ_cons, List.take_zero, List.take_nil, List.drop_succ_cons, List.drop_nil, Nat.zero_le, Nat.le_refl, Nat.sub_zero, List.getElem?_cons_succ, List.getElem?_cons_zero, List.getElem?_nil, List.any_cons, List.any_nil, List.all_cons, List.all_nil, List.append_nil, List.nil_append, List.cons_append, List.set_cons_zero, List.set_cons_succ,
    cond_true, cond_false, decide_true, decide_false, Bool.true_and, Bool.and_true, Bool.false_and, Bool.and_false, Bool.true_or, Bool.or_true, Bool.false_or, Bool.or_false, Bool.not_true, Bool.not_false, Bool.and_self, Bool.or_self, bT, bF, ieq, ine, decide_eq_true_eq, decide_not,
    Nat.reduceEqDiff, Nat.reduceAdd, Nat.reduceSub, Nat.reduceMul, Nat.reduceLeDiff, Nat.reduceLT, Nat.zero_add, Nat.add_zero, Option.getD_some, Option.getD_none, Option.isSome_some, Option.isSome_none, reduceIte, reduceCtorEq, and_self, and_true, true_and, not_true_eq_false, not_false_eq_true, false_imp_iff, forall_const, imp_self,
    Int.reduceNeg, Int.reduceLT, Int.reduceLE, Int.reduceGT, Int.reduceGE, Int.reduceAdd, Int.reduceSub, Int.reduceMul, Int.reduceToNat, Int.reduceEq, ne_eq, eq_self, beq_self_eq_true]
  · rw [if_neg h0]
    have h : ¬ (v : Int) = 0 := by omega
    simp only [fi38, Tryd.f38, an38, h, T3, T49, e_seq, e_region, e_dyn, e_dynS, stepD, accs, accP, accW, simpleOp, isAl, isExt, flipD, D.fresh1, D.row, D.plain, D.plain.plainL, St.close, St.close1, St.borrow, List.flatten_cons, List.flatten_nil, e_block, e_cond, e_ret, e_skip, e_exit, e_plain, e_guard, e_nil, e_op, e_ifT, e_ifF, e_true, e_false, e_loop, e_l, e_top, e_seqN, e_seqE, e_seqR, e_blockN, e_blockR, e_blockE,
    begin_f, begin_t, end_f, e_finN, e_finX, e_finR, retV, resV, resL, outCL, outC, outL, outD, wantedV, opV, An.mid, thawV, D.plainU, prune, List.map_cons, List.map_nil, envOf, get, put, eval, evalT, nz, argsV, capsV, ofV, nbeq, nble, binV, binV.aggV, unV, intV, eqOp, isConst, natV, optV, loadV, loadC, storeV, setC, St.at_, partV, partTy, indexAddrV, fieldAddrV, sliceV, sliceV.rowSl, sliceV.strSl, bounds, cutP,
    builtinV, lenV, maxL, maxV, appendV, St.elems, roomy, rowOf, rowS, isStr, esz, tdOf, convV, buildV, fillV, partsV, okParts, fillL, D.whole, D.demoteC, D.demote, demoteL, D.global, D.flat, D.leaf, D.cells, TI.agg, TD.rowish, callOpV, moveL, CC, keepB, St.borrowL, St.borrow, D.isLsl, adoptR, adoptC, adoptCL, adoptL, adopt,
    List.toArray, Array.toList, List.length_cons, List.length_nil, List.length_map, List.length_append, List.length_replicate, List.replicate_succ, List.replicate_zero, List.replicate_one, ← List.map_take, ← List.map_drop, List.isEmpty_cons, List.isEmpty_nil, List.drop_zero, List.take_succ_cons, List.take_zero, List.take_nil, List.drop_succ_cons, List.drop_nil, Nat.zero_le, Nat.le_refl, Nat.sub_zero, List.getElem?_cons_succ, List.getElem?_cons_zero, List.getElem?_nil, List.any_cons, List.any_nil, List.all_cons, List.all_nil, List.append_nil, List.nil_append, List.cons_append, List.set_cons_zero, List.set_cons_succ,
    cond_true, cond_false, decide_true, decide_false, Bool.true_and, Bool.and_true, Bool.false_and, Bool.and_false, Bool.true_or, Bool.or_true, Bool.false_or, Bool.or_false, Bool.not_true, Bool.not_false, Bool.and_self, Bool.or_self, bT, bF, ieq, ine, decide_eq_true_eq, decide_not,
    Nat.reduceEqDiff, Nat.reduceAdd, Nat.reduceSub, Nat.reduceMul, Nat.reduceLeDiff, Nat.reduceLT, Nat.zero_add, Nat.add_zero, Option.getD_some, Option.getD_none, Option.isSome_some, Option.isSome_none, reduceIte, reduceCtorEq, and_self, and_true, true_and, not_true_eq_false, not_false_eq_true, false_imp_iff, forall_const, imp_self,
    Int.reduceNeg, Int.reduceLT, Int.reduceLE, Int.reduceGT, Int.reduceGE, Int.reduceAdd, Int.reduceSub, Int.reduceMul, Int.reduceToNat, Int.reduceEq, ne_eq, eq_self, beq_self_eq_true]
    refine' in_loop (c' := lp38_0) (fin T _ _ _) ?h rfl ?q
    case h => exact loop38 C B v (by omega) hv _ rfl
    rintro x st' ⟨ρ, rfl, rfl, hg⟩
    simp only [hg, T3, T49, e_seq, e_region, e_dyn, e_dynS, stepD, accs, accP, accW, simpleOp, isAl, isExt, flipD, D.fresh1, D.row, D.plain, D.plain.plainL, St.close, St.close1, St.borrow, List.flatten_cons, List.flatten_nil, e_block, e_cond, e_ret, e_skip, e_exit, e_plain, e_guard, e_nil, e_op, e_ifT, e_ifF, e_true, e_false, e_loop, e_l, e_top, e_seqN, e_seqE, e_seqR, e_blockN, e_blockR, e_blockE,
    begin_f, begin_t, end_f, e_finN, e_finX, e_finR, retV, resV, resL, outCL, outC, outL, outD, wantedV, opV, An.mid, thawV, D.plainU, prune, List.map_cons, List.map_nil, envOf, get, put, eval, evalT, nz, argsV, capsV, ofV, nbeq, nble, binV, binV.aggV, unV, intV, eqOp, isConst, natV, optV, loadV, loadC, storeV, setC, St.at_, partV, partTy, indexAddrV, fieldAddrV, sliceV, sliceV.rowSl, sliceV.strSl, bounds, cutP,
    builtinV, lenV, maxL, maxV, appendV, St.elems, roomy, rowOf, rowS, isStr, esz, tdOf, convV, buildV, fillV, partsV, okParts, fillL, D.whole, D.demoteC, D.demote, demoteL, D.global, D.flat, D.leaf, D.cells, TI.agg, TD.rowish, callOpV, moveL, CC, keepB, St.borrowL, St.borrow, D.isLsl, adoptR, adoptC, adoptCL, adoptL, adopt,
    List.toArray, Array.toList, List.length_cons, List.length_nil, List.length_map, List.length_append, List.length_replicate, List.replicate_succ, List.replicate_zero, List.replicate_one, ← List.map_take, ← List.map_drop, List.isEmpty_cons, List.isEmpty_nil, List.drop_zero, List.take_succ_cons, List.take_zero, List.take_nil, List.drop_succ_cons, List.drop_nil, Nat.zero_le, Nat.le_refl, Nat.sub_zero, List.getElem?_cons_succ, List.getElem?_cons_zero, List.getElem?_nil, List.any_cons, List.any_nil, List.all_cons, List.all_nil, List.append_nil, List.nil_append, List.cons_append, List.set_cons_zero, List.set_cons_succ,
    cond_true, cond_false, decide_true, decide_false, Bool.true_and, Bool.and_true, Bool.false_and, Bool.and_false, Bool.true_or, Bool.or_true, Bool.false_or, Bool.or_false, Bool.not_true, Bool.not_false, Bool.and_self, Bool.or_self, bT, bF, ieq, ine, decide_eq_true_eq, decide_not,
    Nat.reduceEqDiff, Nat.reduceAdd, Nat.reduceSub, Nat.reduceMul, Nat.reduceLeDiff, Nat.reduceLT, Nat.zero_add, Nat.add_zero, Option.getD_some, Option.getD_none, Option.isSome_some, Option.isSome_none, reduceIte, reduceCtorEq, and_self, and_true, true_and, not_true_eq_false, not_false_eq_true, false_imp_iff, forall_const, imp_self,
    Int.reduceNeg, Int.reduceLT, Int.reduceLE, Int.reduceGT, Int.reduceGE, Int.reduceAdd, Int.reduceSub, Int.reduceMul, Int.reduceToNat, Int.reduceEq, ne_eq, eq_self, beq_self_eq_true]

end Go.Proofs.YtploddijjofphaaDoor.V
