/-
Layer 2: four bits; sums.
-/
import Derived.Test.YtdmlojinmkcldaaDoorWM
import Derived.Test.YtdmlojinmkcldaaDoorProg
import Derived.KernelRfl
namespace Go.Proofs.YtdmlojinmkcldaaDoor.V
open Go Go.RowKit
set_option linter.unusedSimpArgs false
set_option linter.unusedVariables false

noncomputable abbrev T := tabOf Tryd.prog
theorem T3 : T 3 = some ⟨.int .i64, 1, 8, (.int .i64 0), true⟩ := by kernel_rfl
theorem T4 : T 4 = some ⟨.bool, 1, 1, (.bool false), true⟩ := by kernel_rfl
theorem T5 : T 5 = some ⟨.int .u8, 1, 1, (.int .u8 0), true⟩ := by kernel_rfl
theorem T25 : T 25 = some ⟨.iface, 1, 16, .nili, false⟩ := by kernel_rfl
theorem T34 : T 34 = some ⟨.slice 5, 1, 24, .nilsl, true⟩ := by kernel_rfl
theorem T57 : T 57 = some ⟨.int .u32, 1, 4, (.int .u32 0), true⟩ := by kernel_rfl
theorem T63 : T 63 = some ⟨.int .u64, 1, 8, (.int .u64 0), true⟩ := by kernel_rfl
theorem T65 : T 65 = some ⟨.int .u64, 1, 8, (.int .u64 0), true⟩ := by kernel_rfl
theorem T77 : T 77 = some ⟨.int .i64, 1, 8, (.int .i64 0), true⟩ := by kernel_rfl
theorem T99 : T 99 = some ⟨.array 16 57, 16, 64, (.agg [(.int .u32 0), (.int .u32 0), (.int .u32 0), (.int .u32 0), (.int .u32 0), (.int .u32 0), (.int .u32 0), (.int .u32 0), (.int .u32 0), (.int .u32 0), (.int .u32 0), (.int .u32 0), (.int .u32 0), (.int .u32 0), (.int .u32 0), (.int .u32 0)]), true⟩ := by kernel_rfl
/-! warren/crc.half -/
def an60 : An := ⟨fun _ => .none, fun _ => false, fun _ => false, fun _ => .none⟩
noncomputable def fi60 : FI := ⟨1, 12, Tryd.f60.body.getD .skip, Tryd.f60.results.toList, an60⟩
theorem ok60 : FnOk Tryd.prog 60 fi60 := ⟨⟨Tryd.f60, Tryd.func60, by kernel_rfl, rfl, rfl, rfl⟩, by decide, by kernel_rfl⟩
/-! warren/crc.More -/
def an42 : An := ⟨fun | 3 => some [5, 10, 11, 12] | _ => .none, fun _ => false, fun _ => false, fun _ => .none⟩
noncomputable def fi42 : FI := ⟨2, 25, Tryd.f42.body.getD .skip, Tryd.f42.results.toList, an42⟩
theorem ok42 : FnOk Tryd.prog 42 fi42 := ⟨⟨Tryd.f42, Tryd.func42, by kernel_rfl, rfl, rfl, rfl⟩, by decide, by kernel_rfl⟩
noncomputable def lp42_0 : Code := subC [1, 1, 0, 1, 0, 0] (Tryd.f42.body.getD .skip)   -- keep [5, 10, 11, 12]
/-! warren/crc.Sum -/
def an38 : An := ⟨fun _ => .none, fun _ => false, fun _ => false, fun _ => .none⟩
noncomputable def fi38 : FI := ⟨1, 5, Tryd.f38.body.getD .skip, Tryd.f38.results.toList, an38⟩
theorem ok38 : FnOk Tryd.prog 38 fi38 := ⟨⟨Tryd.f38, Tryd.func38, by kernel_rfl, rfl, rfl, rfl⟩, by decide, by kernel_rfl⟩
/-! warren/crc.Noughts -/
def an39 : An := ⟨fun | 5 => some [6, 16, 17] | _ => .none, fun _ => false, fun _ => false, fun _ => .none⟩
noncomputable def fi39 : FI := ⟨2, 25, Tryd.f39.body.getD .skip, Tryd.f39.results.toList, an39⟩
theorem ok39 : FnOk Tryd.prog 39 fi39 := ⟨⟨Tryd.f39, Tryd.func39, by kernel_rfl, rfl, rfl, rfl⟩, by decide, by kernel_rfl⟩
noncomputable def lp39_0 : Code := subC [1, 1, 1, 0, 1, 0, 0] (Tryd.f39.body.getD .skip)   -- keep [6, 16, 17]

set_option maxRecDepth 10000 in
theorem run60 (C : Callees) (v : Nat) (hv : v < 4294967296) (B : Hp) : runV T C fi60 [.int .u32 v] B = some (.int .u32 (halfN v : Nat), B) := by
  rw [e_run _ _ _ rfl]
  have h1 : shrV .u32 (v : Int) 4 = ((v / 16 : Nat) : Int) := shr_nat .u32 v 4 (by decide)
  have h2 : bitsV .and .u32 (v : Int) 15 = ((v % 16 : Nat) : Int) := by
    have := bits_nat (k := .u32) rfl .and v 15 (by show _ < 2 ^ 32; omega) (by decide)
    simp only [show (15 : Nat) = 2 ^ 4 - 1 from rfl, Nat.and_two_pow_sub_one_eq_mod] at this
    exact this
  have h3 : bitsV .xor .u32 ((v / 16 : Nat) : Int) ((tabN.getD (v % 16) 0 : Nat) : Int) = ((halfN v : Nat) : Int) := by
    have ht : ∀ r : Fin 16, tabN.getD r.val 0 < 2 ^ 32 := of_decide_eq_true (by kernel_rfl)
    have := bits_nat (k := .u32) rfl .xor (v / 16) (tabN.getD (v % 16) 0) (by show _ < 2 ^ 32; omega) (ht ⟨v % 16, by omega⟩)
    exact this
  have h4 : v % 16 < 16 := by omega
  generalize halfN v = w at h3 ⊢
  generalize v % 16 = r at h2 h3 h4
  have h5 : (0 : Int) ≤ r := by omega
  have h6 : r ≤ 15 := by omega
  have h7 : ([D.int .u32 0, D.int .u32 274646895, D.int .u32 549293790, D.int .u32 820201905, D.int .u32 1098587580, D.int .u32 1361435347, D.int .u32 1640403810, D.int .u32 1905808397, D.int .u32 2197175160, D.int .u32 2460548119, D.int .u32 2722870694, D.int .u32 2987750089, D.int .u32 3280807620, D.int .u32 3553878443, D.int .u32 3811616794, D.int .u32 4084100981] : List D)[r]? = some (.int .u32 (tabN.getD r 0 : Nat)) := by
    show (tabN.map fun n : Nat => D.int .u32 n)[r]? = _
    rw [List.getElem?_map, List.getD_eq_getElem?_getD, List.getElem?_eq_getElem (by show r < 16; omega)]; rfl
  simp only [fi60, Tryd.f60, an60, h1, h2, h3, h4, h5, h6, h7, Int.toNat_natCast, Nat.mul_one, T57, T99, e_seq, e_region, e_dyn, e_dynS, stepD, accs, accP, accW, simpleOp, isAl, isExt, flipD, D.fresh1, D.row, D.plain, D.plain.plainL, St.close, St.close1, St.borrow, thawV, D.plainU, List.flatten_cons, List.flatten_nil, e_block, e_cond, e_ret, e_skip, e_exit, e_plain, e_guard, e_nil, e_op, e_ifT, e_ifF, e_true, e_false, e_loop, e_l, e_top, e_seqN, e_seqE, e_seqR, e_blockN, e_blockR, e_blockE,
    e_finN, e_finX, e_finR, retV, resV, resL, outCL, outC, outL, outD, wantedV, opV, An.at_, prune, List.map_cons, List.map_nil, envOf, get, put, eval, ofV, nbeq, nble, binV, binV.aggV, unV, intV, eqOp, isConst, natV, optV, loadV, loadC, storeV, setC, St.at_, partV, indexAddrV, fieldAddrV, sliceV, sliceV.rowSl, sliceV.strSl, bounds, cutP,
    builtinV, lenV, maxL, maxV, appendV, St.elems, roomy, rowOf, rowS, isStr, esz, tdOf, convV, buildV, fillV, partsV, okParts, fillL, D.whole, D.demoteC, D.demote, demoteL, D.global, D.leaf, D.cells, TI.agg, TD.rowish, callOpV, CC, keepB, St.borrowL, St.borrow, D.isLsl, adoptR, adoptC, adoptCL, adoptL, adopt, upd,
    List.toArray, Array.toList, List.length_cons, List.length_nil, List.length_map, List.length_append, List.length_replicate, List.replicate_succ, List.replicate_zero, List.replicate_one, ← List.map_take, ← List.map_drop, List.drop_zero, List.take_succ_cons, List.take_zero, List.take_nil, List.drop_succ_cons, List.drop_nil, Nat.zero_le, Nat.le_refl, Nat.sub_zero, List.getElem?_cons_succ, List.getElem?_cons_zero, List.getElem?_nil, List.any_cons, List.any_nil, List.all_cons, List.all_nil, List.append_nil, List.nil_append, List.cons_append, List.set_cons_zero, List.set_cons_succ,
    cond_true, cond_false, decide_true, decide_false, Bool.true_and, Bool.and_true, Bool.false_and, Bool.and_false, Bool.true_or, Bool.or_true, Bool.false_or, Bool.or_false, Bool.not_true, Bool.not_false, Bool.and_self, Bool.or_self, bT, bF, ieq, ine, decide_eq_true_eq, decide_not,
    Nat.reduceEqDiff, Nat.reduceAdd, Nat.reduceSub, Nat.reduceMul, Nat.reduceLeDiff, Nat.reduceLT, Nat.zero_add, Nat.add_zero, Option.getD_some, Option.getD_none, Option.isSome_some, Option.isSome_none, reduceIte, reduceCtorEq, and_self, and_true, true_and, not_true_eq_false, not_false_eq_true, false_imp_iff, forall_const, imp_self,
    Int.reduceNeg, Int.reduceLT, Int.reduceLE, Int.reduceGT, Int.reduceGE, Int.reduceAdd, Int.reduceSub, Int.reduceMul, Int.reduceToNat, Int.reduceEq, ne_eq, eq_self, beq_self_eq_true]

/-! ### Sums -/
def HalfOk (C : Callees) : Prop := ∀ (v : Nat) (B : Hp), v < 4294967296 → C 60 [.int .u32 v] B = some (.int .u32 (halfN v : Nat), B)

theorem not_u32 {v : Nat} (h : v < 4294967296) : bitsV .xor .u32 (if IntKind.u32.signed = true then -1 else IntKind.u32.max) (v : Int) = ((4294967295 - v : Nat) : Int) := by
  have := bits_nat (k := .u32) rfl .xor 4294967295 v (by decide) (by show _ < 2 ^ 32; omega)
  simp only [ones_xor h] at this
  exact this

theorem xor_u32 {a b : Nat} (ha : a < 4294967296) (hb : b < 4294967296) : bitsV .xor .u32 (a : Int) (b : Int) = ((a ^^^ b : Nat) : Int) :=
  bits_nat (k := .u32) rfl .xor a b ha hb

def st42 (l : List UInt8) (d : D) (v k : Nat) (B : Hp) : St := ⟨[(5, .int .u32 v), (10, d), (11, .int .i64 l.length), (12, .int .i64 k)], [], [], B⟩

set_option maxRecDepth 10000 in
theorem body42_end (C : Callees) (l : List UInt8) (d : D) (v : Nat) (B : Hp) :
    ∃ ρ, go T an42 C lp42_0 .top (st42 l d v l.length B) = some (.exit 0, ⟨ρ, [], [], B⟩) ∧ get ρ 5 = .int .u32 v := by
  simp only [st42, lp42_0, subC, atC, Tryd.f42, an42, Int.lt_irrefl, T3, T5, T34, T57, e_seq, e_region, e_dyn, e_dynS, stepD, accs, accP, accW, simpleOp, isAl, isExt, flipD, D.fresh1, D.row, D.plain, D.plain.plainL, St.close, St.close1, St.borrow, thawV, D.plainU, List.flatten_cons, List.flatten_nil, e_block, e_cond, e_ret, e_skip, e_exit, e_plain, e_guard, e_nil, e_op, e_ifT, e_ifF, e_true, e_false, e_loop, e_l, e_top, e_seqN, e_seqE, e_seqR, e_blockN, e_blockR, e_blockE,
    e_finN, e_finX, e_finR, retV, resV, resL, outCL, outC, outL, outD, wantedV, opV, An.at_, prune, List.map_cons, List.map_nil, envOf, get, put, eval, ofV, nbeq, nble, binV, binV.aggV, unV, intV, eqOp, isConst, natV, optV, loadV, loadC, storeV, setC, St.at_, partV, indexAddrV, fieldAddrV, sliceV, sliceV.rowSl, sliceV.strSl, bounds, cutP,
    builtinV, lenV, maxL, maxV, appendV, St.elems, roomy, rowOf, rowS, isStr, esz, tdOf, convV, buildV, fillV, partsV, okParts, fillL, D.whole, D.demoteC, D.demote, demoteL, D.global, D.leaf, D.cells, TI.agg, TD.rowish, callOpV, CC, keepB, St.borrowL, St.borrow, D.isLsl, adoptR, adoptC, adoptCL, adoptL, adopt, upd,
    List.toArray, Array.toList, List.length_cons, List.length_nil, List.length_map, List.length_append, List.length_replicate, List.replicate_succ, List.replicate_zero, List.replicate_one, ← List.map_take, ← List.map_drop, List.drop_zero, List.take_succ_cons, List.take_zero, List.take_nil, List.drop_succ_cons, List.drop_nil, Nat.zero_le, Nat.le_refl, Nat.sub_zero, List.getElem?_cons_succ, List.getElem?_cons_zero, List.getElem?_nil, List.any_cons, List.any_nil, List.all_cons, List.all_nil, List.append_nil, List.nil_append, List.cons_append, List.set_cons_zero, List.set_cons_succ,
    cond_true, cond_false, decide_true, decide_false, Bool.true_and, Bool.and_true, Bool.false_and, Bool.and_false, Bool.true_or, Bool.or_true, Bool.false_or, Bool.or_false, Bool.not_true, Bool.not_false, Bool.and_self, Bool.or_self, bT, bF, ieq, ine, decide_eq_true_eq, decide_not,
    Nat.reduceEqDiff, Nat.reduceAdd, Nat.reduceSub, Nat.reduceMul, Nat.reduceLeDiff, Nat.reduceLT, Nat.zero_add, Nat.add_zero, Option.getD_some, Option.getD_none, Option.isSome_some, Option.isSome_none, reduceIte, reduceCtorEq, and_self, and_true, true_and, not_true_eq_false, not_false_eq_true, false_imp_iff, forall_const, imp_self,
    Int.reduceNeg, Int.reduceLT, Int.reduceLE, Int.reduceGT, Int.reduceGE, Int.reduceAdd, Int.reduceSub, Int.reduceMul, Int.reduceToNat, Int.reduceEq, ne_eq, eq_self, beq_self_eq_true]
  exact ⟨_, rfl, rfl⟩

set_option maxRecDepth 10000 in
theorem body42_ok (C : Callees) (hh : HalfOk C) (l : List UInt8) (p : Perm) (v k : Nat) (hv : v < 4294967296) (B : Hp) (c : UInt8) (hc : l[k]? = some c) (hl : l.length ≤ 1000000) :
    ∃ ρ, go T an42 C lp42_0 .top (st42 l (.vec 1 (l.map byteD) p) v k B) = some (.norm, ⟨ρ, [], [], B⟩) ∧ an42.at_ (some 3) ⟨ρ, [], [], B⟩ = st42 l (.vec 1 (l.map byteD) p) (byteN v c.toNat) (k + 1) B := by
  have hk := (List.getElem?_eq_some_iff.1 hc).1
  have hcl := c.toNat_lt
  have g1 : (k : Int) < l.length := by omega
  have g2 : (0 : Int) ≤ k := by omega
  have g3 := wrapI (x := (k : Int) + 1) (by omega) (by omega)
  have g4 : IntKind.u32.wrap (c.toNat : Int) = c.toNat := wrap_u32 (by omega) (by omega)
  have g5 := xor_u32 (a := v) (b := c.toNat) hv (by omega)
  have hx := Nat.xor_lt_two_pow (n := 32) hv (by omega : c.toNat < 2 ^ 32)
  have g6 := hh (v ^^^ c.toNat) B hx
  have g7 := hh (halfN (v ^^^ c.toNat)) B (half_lt hx)
  simp only [st42, lp42_0, subC, atC, Tryd.f42, an42, g1, g2, g3, g4, g5, g6, g7, List.getElem?_map, Int.toNat_natCast, hc, Option.map_some, byteD, T3, T5, T34, T57, e_seq, e_region, e_dyn, e_dynS, stepD, accs, accP, accW, simpleOp, isAl, isExt, flipD, D.fresh1, D.row, D.plain, D.plain.plainL, St.close, St.close1, St.borrow, thawV, D.plainU, List.flatten_cons, List.flatten_nil, e_block, e_cond, e_ret, e_skip, e_exit, e_plain, e_guard, e_nil, e_op, e_ifT, e_ifF, e_true, e_false, e_loop, e_l, e_top, e_seqN, e_seqE, e_seqR, e_blockN, e_blockR, e_blockE,
    e_finN, e_finX, e_finR, retV, resV, resL, outCL, outC, outL, outD, wantedV, opV, An.at_, prune, List.map_cons, List.map_nil, envOf, get, put, eval, ofV, nbeq, nble, binV, binV.aggV, unV, intV, eqOp, isConst, natV, optV, loadV, loadC, storeV, setC, St.at_, partV, indexAddrV, fieldAddrV, sliceV, sliceV.rowSl, sliceV.strSl, bounds, cutP,
    builtinV, lenV, maxL, maxV, appendV, St.elems, roomy, rowOf, rowS, isStr, esz, tdOf, convV, buildV, fillV, partsV, okParts, fillL, D.whole, D.demoteC, D.demote, demoteL, D.global, D.leaf, D.cells, TI.agg, TD.rowish, callOpV, CC, keepB, St.borrowL, St.borrow, D.isLsl, adoptR, adoptC, adoptCL, adoptL, adopt, upd,
    List.toArray, Array.toList, List.length_cons, List.length_nil, List.length_map, List.length_append, List.length_replicate, List.replicate_succ, List.replicate_zero, List.replicate_one, ← List.map_take, ← List.map_drop, List.drop_zero, List.take_succ_cons, List.take_zero, List.take_nil, List.drop_succ_cons, List.drop_nil, Nat.zero_le, Nat.le_refl, Nat.sub_zero, List.getElem?_cons_succ, List.getElem?_cons_zero, List.getElem?_nil, List.any_cons, List.any_nil, List.all_cons, List.all_nil, List.append_nil, List.nil_append, List.cons_append, List.set_cons_zero, List.set_cons_succ,
    cond_true, cond_false, decide_true, decide_false, Bool.true_and, Bool.and_true, Bool.false_and, Bool.and_false, Bool.true_or, Bool.or_true, Bool.false_or, Bool.or_false, Bool.not_true, Bool.not_false, Bool.and_self, Bool.or_self, bT, bF, ieq, ine, decide_eq_true_eq, decide_not,
    Nat.reduceEqDiff, Nat.reduceAdd, Nat.reduceSub, Nat.reduceMul, Nat.reduceLeDiff, Nat.reduceLT, Nat.zero_add, Nat.add_zero, Option.getD_some, Option.getD_none, Option.isSome_some, Option.isSome_none, reduceIte, reduceCtorEq, and_self, and_true, true_and, not_true_eq_false, not_false_eq_true, false_imp_iff, forall_const, imp_self,
    Int.reduceNeg, Int.reduceLT, Int.reduceLE, Int.reduceGT, Int.reduceGE, Int.reduceAdd, Int.reduceSub, Int.reduceMul, Int.reduceToNat, Int.reduceEq, ne_eq, eq_self, beq_self_eq_true]
  exact ⟨_, rfl, rfl⟩

theorem loop42 (C : Callees) (hh : HalfOk C) (l : List UInt8) (p : Perm) (hl : l.length ≤ 1000000) (B : Hp) : ∀ (m k v : Nat) (st : St), l.length - k = m → k ≤ l.length → v < 4294967296 → an42.at_ (some 3) st = st42 l (.vec 1 (l.map byteD) p) v k B →
    ∃ x st', loopC T an42 C lp42_0 st = some (x, st') ∧ ∃ ρ, st' = ⟨ρ, [], [], B⟩ ∧ x = .exit 0 ∧ get ρ 5 = .int .u32 (crcN v (l.drop k) : Nat) := by
  intro m
  induction m with
  | zero =>
    intro k v st hm hk hv hst
    obtain rfl : k = l.length := by omega
    obtain ⟨ρ, h, hg⟩ := body42_end C l (.vec 1 (l.map byteD) p) v B
    exact ⟨_, _, loopC_done (by rw [show firstOf lp42_0 = some 3 from rfl, hst]; exact h) (by simp), ρ, rfl, rfl, by rw [hg, List.drop_length]; rfl⟩
  | succ m ih =>
    intro k v st hm hk hv hst
    have hkn := List.getElem?_eq_getElem (l := l) (i := k) (by omega)
    rw [List.drop_eq_getElem_cons (by omega : k < l.length)]
    generalize l[k] = c at hkn ⊢
    have hcl := c.toNat_lt
    obtain ⟨ρ, h, hg⟩ := body42_ok C hh l p v k hv B c hkn hl
    obtain ⟨x, st', h4, h5⟩ := ih (k + 1) (byteN v c.toNat) ⟨ρ, [], [], B⟩ (by omega) (by omega) (byte_lt hv (by omega)) hg
    exact ⟨x, st', loopC_next (by rw [show firstOf lp42_0 = some 3 from rfl, hst]; exact h) h4, h5⟩

/-- Bytes as an argument. -/
def ByD (d : D) (l : List UInt8) : Prop := (d = .nilsl ∧ l = []) ∨ ∃ p, d = .vec 1 (l.map byteD) p

set_option maxRecDepth 10000 in
theorem run42 (C : Callees) (hh : HalfOk C) (s : Nat) (hs : s < 4294967296) (d : D) (l : List UInt8) (hd : ByD d l) (hl : l.length ≤ 1000000) (B : Hp) : runV T C fi42 [.int .u32 s, d] B = some (.int .u32 (moreS s l : Nat), B) := by
  rw [e_run _ _ _ rfl]
  have h1 := not_u32 hs
  have hlt := crc_lt l (v := 4294967295 - s) (by omega)
  have h2 := not_u32 hlt
  rcases hd with ⟨rfl, rfl⟩ | ⟨p, rfl⟩
  · obtain ⟨ρ, h, hg⟩ := body42_end C [] .nilsl (4294967295 - s) B
    simp only [fi42, Tryd.f42, an42, h1, T3, T5, T34, T57, e_seq, e_region, e_dyn, e_dynS, stepD, accs, accP, accW, simpleOp, isAl, isExt, flipD, D.fresh1, D.row, D.plain, D.plain.plainL, St.close, St.close1, St.borrow, thawV, D.plainU, List.flatten_cons, List.flatten_nil, e_block, e_cond, e_ret, e_skip, e_exit, e_plain, e_guard, e_nil, e_op, e_ifT, e_ifF, e_true, e_false, e_loop, e_l, e_top, e_seqN, e_seqE, e_seqR, e_blockN, e_blockR, e_blockE,
    e_finN, e_finX, e_finR, retV, resV, resL, outCL, outC, outL, outD, wantedV, opV, An.at_, prune, List.map_cons, List.map_nil, envOf, get, put, eval, ofV, nbeq, nble, binV, binV.aggV, unV, intV, eqOp, isConst, natV, optV, loadV, loadC, storeV, setC, St.at_, partV, indexAddrV, fieldAddrV, sliceV, sliceV.rowSl, sliceV.strSl, bounds, cutP,
    builtinV, lenV, maxL, maxV, appendV, St.elems, roomy, rowOf, rowS, isStr, esz, tdOf, convV, buildV, fillV, partsV, okParts, fillL, D.whole, D.demoteC, D.demote, demoteL, D.global, D.leaf, D.cells, TI.agg, TD.rowish, callOpV, CC, keepB, St.borrowL, St.borrow, D.isLsl, adoptR, adoptC, adoptCL, adoptL, adopt, upd,
    List.toArray, Array.toList, List.length_cons, List.length_nil, List.length_map, List.length_append, List.length_replicate, List.replicate_succ, List.replicate_zero, List.replicate_one, ← List.map_take, ← List.map_drop, List.drop_zero, List.take_succ_cons, List.take_zero, List.take_nil, List.drop_succ_cons, List.drop_nil, Nat.zero_le, Nat.le_refl, Nat.sub_zero, List.getElem?_cons_succ, List.getElem?_cons_zero, List.getElem?_nil, List.any_cons, List.any_nil, List.all_cons, List.all_nil, List.append_nil, List.nil_append, List.cons_append, List.set_cons_zero, List.set_cons_succ,
    cond_true, cond_false, decide_true, decide_false, Bool.true_and, Bool.and_true, Bool.false_and, Bool.and_false, Bool.true_or, Bool.or_true, Bool.false_or, Bool.or_false, Bool.not_true, Bool.not_false, Bool.and_self, Bool.or_self, bT, bF, ieq, ine, decide_eq_true_eq, decide_not,
    Nat.reduceEqDiff, Nat.reduceAdd, Nat.reduceSub, Nat.reduceMul, Nat.reduceLeDiff, Nat.reduceLT, Nat.zero_add, Nat.add_zero, Option.getD_some, Option.getD_none, Option.isSome_some, Option.isSome_none, reduceIte, reduceCtorEq, and_self, and_true, true_and, not_true_eq_false, not_false_eq_true, false_imp_iff, forall_const, imp_self,
    Int.reduceNeg, Int.reduceLT, Int.reduceLE, Int.reduceGT, Int.reduceGE, Int.reduceAdd, Int.reduceSub, Int.reduceMul, Int.reduceToNat, Int.reduceEq, ne_eq, eq_self, beq_self_eq_true]
    refine' in_loop (c' := lp42_0) (Q := fun x st' => st' = ⟨ρ, [], [], B⟩ ∧ x = .exit 0) (fin T _) ?h rfl ?q
    case h => exact ⟨_, _, loopC_done (by rw [show firstOf lp42_0 = some 3 from rfl]; exact h) (by simp), rfl, rfl⟩
    rintro x st' ⟨rfl, rfl⟩
    simp only [crcN, List.foldl_nil] at h2
    simp only [hg, h2, moreS, crcN, List.foldl_nil, T3, T5, T34, T57, e_seq, e_region, e_dyn, e_dynS, stepD, accs, accP, accW, simpleOp, isAl, isExt, flipD, D.fresh1, D.row, D.plain, D.plain.plainL, St.close, St.close1, St.borrow, thawV, D.plainU, List.flatten_cons, List.flatten_nil, e_block, e_cond, e_ret, e_skip, e_exit, e_plain, e_guard, e_nil, e_op, e_ifT, e_ifF, e_true, e_false, e_loop, e_l, e_top, e_seqN, e_seqE, e_seqR, e_blockN, e_blockR, e_blockE,
    e_finN, e_finX, e_finR, retV, resV, resL, outCL, outC, outL, outD, wantedV, opV, An.at_, prune, List.map_cons, List.map_nil, envOf, get, put, eval, ofV, nbeq, nble, binV, binV.aggV, unV, intV, eqOp, isConst, natV, optV, loadV, loadC, storeV, setC, St.at_, partV, indexAddrV, fieldAddrV, sliceV, sliceV.rowSl, sliceV.strSl, bounds, cutP,
    builtinV, lenV, maxL, maxV, appendV, St.elems, roomy, rowOf, rowS, isStr, esz, tdOf, convV, buildV, fillV, partsV, okParts, fillL, D.whole, D.demoteC, D.demote, demoteL, D.global, D.leaf, D.cells, TI.agg, TD.rowish, callOpV, CC, keepB, St.borrowL, St.borrow, D.isLsl, adoptR, adoptC, adoptCL, adoptL, adopt, upd,
    List.toArray, Array.toList, List.length_cons, List.length_nil, List.length_map, List.length_append, List.length_replicate, List.replicate_succ, List.replicate_zero, List.replicate_one, ← List.map_take, ← List.map_drop, List.drop_zero, List.take_succ_cons, List.take_zero, List.take_nil, List.drop_succ_cons, List.drop_nil, Nat.zero_le, Nat.le_refl, Nat.sub_zero, List.getElem?_cons_succ, List.getElem?_cons_zero, List.getElem?_nil, List.any_cons, List.any_nil, List.all_cons, List.all_nil, List.append_nil, List.nil_append, List.cons_append, List.set_cons_zero, List.set_cons_succ,
    cond_true, cond_false, decide_true, decide_false, Bool.true_and, Bool.and_true, Bool.false_and, Bool.and_false, Bool.true_or, Bool.or_true, Bool.false_or, Bool.or_false, Bool.not_true, Bool.not_false, Bool.and_self, Bool.or_self, bT, bF, ieq, ine, decide_eq_true_eq, decide_not,
    Nat.reduceEqDiff, Nat.reduceAdd, Nat.reduceSub, Nat.reduceMul, Nat.reduceLeDiff, Nat.reduceLT, Nat.zero_add, Nat.add_zero, Option.getD_some, Option.getD_none, Option.isSome_some, Option.isSome_none, reduceIte, reduceCtorEq, and_self, and_true, true_and, not_true_eq_false, not_false_eq_true, false_imp_iff, forall_const, imp_self,
    Int.reduceNeg, Int.reduceLT, Int.reduceLE, Int.reduceGT, Int.reduceGE, Int.reduceAdd, Int.reduceSub, Int.reduceMul, Int.reduceToNat, Int.reduceEq, ne_eq, eq_self, beq_self_eq_true]
  · simp only [fi42, Tryd.f42, an42, h1, T3, T5, T34, T57, e_seq, e_region, e_dyn, e_dynS, stepD, accs, accP, accW, simpleOp, isAl, isExt, flipD, D.fresh1, D.row, D.plain, D.plain.plainL, St.close, St.close1, St.borrow, thawV, D.plainU, List.flatten_cons, List.flatten_nil, e_block, e_cond, e_ret, e_skip, e_exit, e_plain, e_guard, e_nil, e_op, e_ifT, e_ifF, e_true, e_false, e_loop, e_l, e_top, e_seqN, e_seqE, e_seqR, e_blockN, e_blockR, e_blockE,
    e_finN, e_finX, e_finR, retV, resV, resL, outCL, outC, outL, outD, wantedV, opV, An.at_, prune, List.map_cons, List.map_nil, envOf, get, put, eval, ofV, nbeq, nble, binV, binV.aggV, unV, intV, eqOp, isConst, natV, optV, loadV, loadC, storeV, setC, St.at_, partV, indexAddrV, fieldAddrV, sliceV, sliceV.rowSl, sliceV.strSl, bounds, cutP,
    builtinV, lenV, maxL, maxV, appendV, St.elems, roomy, rowOf, rowS, isStr, esz, tdOf, convV, buildV, fillV, partsV, okParts, fillL, D.whole, D.demoteC, D.demote, demoteL, D.global, D.leaf, D.cells, TI.agg, TD.rowish, callOpV, CC, keepB, St.borrowL, St.borrow, D.isLsl, adoptR, adoptC, adoptCL, adoptL, adopt, upd,
    List.toArray, Array.toList, List.length_cons, List.length_nil, List.length_map, List.length_append, List.length_replicate, List.replicate_succ, List.replicate_zero, List.replicate_one, ← List.map_take, ← List.map_drop, List.drop_zero, List.take_succ_cons, List.take_zero, List.take_nil, List.drop_succ_cons, List.drop_nil, Nat.zero_le, Nat.le_refl, Nat.sub_zero, List.getElem?_cons_succ, List.getElem?_cons_zero, List.getElem?_nil, List.any_cons, List.any_nil, List.all_cons, List.all_nil, List.append_nil, List.nil_append, List.cons_append, List.set_cons_zero, List.set_cons_succ,
    cond_true, cond_false, decide_true, decide_false, Bool.true_and, Bool.and_true, Bool.false_and, Bool.and_false, Bool.true_or, Bool.or_true, Bool.false_or, Bool.or_false, Bool.not_true, Bool.not_false, Bool.and_self, Bool.or_self, bT, bF, ieq, ine, decide_eq_true_eq, decide_not,
    Nat.reduceEqDiff, Nat.reduceAdd, Nat.reduceSub, Nat.reduceMul, Nat.reduceLeDiff, Nat.reduceLT, Nat.zero_add, Nat.add_zero, Option.getD_some, Option.getD_none, Option.isSome_some, Option.isSome_none, reduceIte, reduceCtorEq, and_self, and_true, true_and, not_true_eq_false, not_false_eq_true, false_imp_iff, forall_const, imp_self,
    Int.reduceNeg, Int.reduceLT, Int.reduceLE, Int.reduceGT, Int.reduceGE, Int.reduceAdd, Int.reduceSub, Int.reduceMul, Int.reduceToNat, Int.reduceEq, ne_eq, eq_self, beq_self_eq_true]
    refine' in_loop (c' := lp42_0) (fin T _) ?h2 rfl ?q2
    case h2 => exact loop42 C hh l p hl B l.length 0 (4294967295 - s) _ rfl (by omega) (by omega) rfl
    rintro x st' ⟨ρ, rfl, rfl, hg⟩
    rw [List.drop_zero] at hg
    simp only [hg, h2, moreS, T3, T5, T34, T57, e_seq, e_region, e_dyn, e_dynS, stepD, accs, accP, accW, simpleOp, isAl, isExt, flipD, D.fresh1, D.row, D.plain, D.plain.plainL, St.close, St.close1, St.borrow, thawV, D.plainU, List.flatten_cons, List.flatten_nil, e_block, e_cond, e_ret, e_skip, e_exit, e_plain, e_guard, e_nil, e_op, e_ifT, e_ifF, e_true, e_false, e_loop, e_l, e_top, e_seqN, e_seqE, e_seqR, e_blockN, e_blockR, e_blockE,
    e_finN, e_finX, e_finR, retV, resV, resL, outCL, outC, outL, outD, wantedV, opV, An.at_, prune, List.map_cons, List.map_nil, envOf, get, put, eval, ofV, nbeq, nble, binV, binV.aggV, unV, intV, eqOp, isConst, natV, optV, loadV, loadC, storeV, setC, St.at_, partV, indexAddrV, fieldAddrV, sliceV, sliceV.rowSl, sliceV.strSl, bounds, cutP,
    builtinV, lenV, maxL, maxV, appendV, St.elems, roomy, rowOf, rowS, isStr, esz, tdOf, convV, buildV, fillV, partsV, okParts, fillL, D.whole, D.demoteC, D.demote, demoteL, D.global, D.leaf, D.cells, TI.agg, TD.rowish, callOpV, CC, keepB, St.borrowL, St.borrow, D.isLsl, adoptR, adoptC, adoptCL, adoptL, adopt, upd,
    List.toArray, Array.toList, List.length_cons, List.length_nil, List.length_map, List.length_append, List.length_replicate, List.replicate_succ, List.replicate_zero, List.replicate_one, ← List.map_take, ← List.map_drop, List.drop_zero, List.take_succ_cons, List.take_zero, List.take_nil, List.drop_succ_cons, List.drop_nil, Nat.zero_le, Nat.le_refl, Nat.sub_zero, List.getElem?_cons_succ, List.getElem?_cons_zero, List.getElem?_nil, List.any_cons, List.any_nil, List.all_cons, List.all_nil, List.append_nil, List.nil_append, List.cons_append, List.set_cons_zero, List.set_cons_succ,
    cond_true, cond_false, decide_true, decide_false, Bool.true_and, Bool.and_true, Bool.false_and, Bool.and_false, Bool.true_or, Bool.or_true, Bool.false_or, Bool.or_false, Bool.not_true, Bool.not_false, Bool.and_self, Bool.or_self, bT, bF, ieq, ine, decide_eq_true_eq, decide_not,
    Nat.reduceEqDiff, Nat.reduceAdd, Nat.reduceSub, Nat.reduceMul, Nat.reduceLeDiff, Nat.reduceLT, Nat.zero_add, Nat.add_zero, Option.getD_some, Option.getD_none, Option.isSome_some, Option.isSome_none, reduceIte, reduceCtorEq, and_self, and_true, true_and, not_true_eq_false, not_false_eq_true, false_imp_iff, forall_const, imp_self,
    Int.reduceNeg, Int.reduceLT, Int.reduceLE, Int.reduceGT, Int.reduceGE, Int.reduceAdd, Int.reduceSub, Int.reduceMul, Int.reduceToNat, Int.reduceEq, ne_eq, eq_self, beq_self_eq_true]

set_option maxRecDepth 10000 in
theorem run38 (C : Callees) (hm : ∀ (s : Nat) (d : D) (l : List UInt8) (B : Hp), s < 4294967296 → ByD d l → l.length ≤ 1000000 → C 42 [.int .u32 s, d] B = some (.int .u32 (moreS s l : Nat), B))
    (d : D) (l : List UInt8) (hd : ByD d l) (hl : l.length ≤ 1000000) (B : Hp) : runV T C fi38 [d] B = some (.int .u32 (moreS 0 l : Nat), B) := by
  rw [e_run _ _ _ rfl]
  rcases hd with ⟨rfl, rfl⟩ | ⟨p, rfl⟩
  · have h1 : C 42 [.int .u32 0, .nilsl] B = some (.int .u32 (moreS 0 [] : Nat), B) := hm 0 .nilsl [] B (by omega) (.inl ⟨rfl, rfl⟩) (by simp)
    simp only [fi38, Tryd.f38, an38, h1, e_seq, e_region, e_dyn, e_dynS, stepD, accs, accP, accW, simpleOp, isAl, isExt, flipD, D.fresh1, D.row, D.plain, D.plain.plainL, St.close, St.close1, St.borrow, thawV, D.plainU, List.flatten_cons, List.flatten_nil, e_block, e_cond, e_ret, e_skip, e_exit, e_plain, e_guard, e_nil, e_op, e_ifT, e_ifF, e_true, e_false, e_loop, e_l, e_top, e_seqN, e_seqE, e_seqR, e_blockN, e_blockR, e_blockE,
    e_finN, e_finX, e_finR, retV, resV, resL, outCL, outC, outL, outD, wantedV, opV, An.at_, prune, List.map_cons, List.map_nil, envOf, get, put, eval, ofV, nbeq, nble, binV, binV.aggV, unV, intV, eqOp, isConst, natV, optV, loadV, loadC, storeV, setC, St.at_, partV, indexAddrV, fieldAddrV, sliceV, sliceV.rowSl, sliceV.strSl, bounds, cutP,
    builtinV, lenV, maxL, maxV, appendV, St.elems, roomy, rowOf, rowS, isStr, esz, tdOf, convV, buildV, fillV, partsV, okParts, fillL, D.whole, D.demoteC, D.demote, demoteL, D.global, D.leaf, D.cells, TI.agg, TD.rowish, callOpV, CC, keepB, St.borrowL, St.borrow, D.isLsl, adoptR, adoptC, adoptCL, adoptL, adopt, upd,
    List.toArray, Array.toList, List.length_cons, List.length_nil, List.length_map, List.length_append, List.length_replicate, List.replicate_succ, List.replicate_zero, List.replicate_one, ← List.map_take, ← List.map_drop, List.drop_zero, List.take_succ_cons, List.take_zero, List.take_nil, List.drop_succ_cons, List.drop_nil, Nat.zero_le, Nat.le_refl, Nat.sub_zero, List.getElem?_cons_succ, List.getElem?_cons_zero, List.getElem?_nil, List.any_cons, List.any_nil, List.all_cons, List.all_nil, List.append_nil, List.nil_append, List.cons_append, List.set_cons_zero, List.set_cons_succ,
    cond_true, cond_false, decide_true, decide_false, Bool.true_and, Bool.and_true, Bool.false_and, Bool.and_false, Bool.true_or, Bool.or_true, Bool.false_or, Bool.or_false, Bool.not_true, Bool.not_false, Bool.and_self, Bool.or_self, bT, bF, ieq, ine, decide_eq_true_eq, decide_not,
    Nat.reduceEqDiff, Nat.reduceAdd, Nat.reduceSub, Nat.reduceMul, Nat.reduceLeDiff, Nat.reduceLT, Nat.zero_add, Nat.add_zero, Option.getD_some, Option.getD_none, Option.isSome_some, Option.isSome_none, reduceIte, reduceCtorEq, and_self, and_true, true_and, not_true_eq_false, not_false_eq_true, false_imp_iff, forall_const, imp_self,
    Int.reduceNeg, Int.reduceLT, Int.reduceLE, Int.reduceGT, Int.reduceGE, Int.reduceAdd, Int.reduceSub, Int.reduceMul, Int.reduceToNat, Int.reduceEq, ne_eq, eq_self, beq_self_eq_true]
  · have h1 : ∀ p, C 42 [.int .u32 0, .vec 1 (l.map byteD) p] B = some (.int .u32 (moreS 0 l : Nat), B) := fun p => hm 0 _ l B (by omega) (.inr ⟨p, rfl⟩) hl
    simp only [fi38, Tryd.f38, an38, h1, e_seq, e_region, e_dyn, e_dynS, stepD, accs, accP, accW, simpleOp, isAl, isExt, flipD, D.fresh1, D.row, D.plain, D.plain.plainL, St.close, St.close1, St.borrow, thawV, D.plainU, List.flatten_cons, List.flatten_nil, e_block, e_cond, e_ret, e_skip, e_exit, e_plain, e_guard, e_nil, e_op, e_ifT, e_ifF, e_true, e_false, e_loop, e_l, e_top, e_seqN, e_seqE, e_seqR, e_blockN, e_blockR, e_blockE,
    e_finN, e_finX, e_finR, retV, resV, resL, outCL, outC, outL, outD, wantedV, opV, An.at_, prune, List.map_cons, List.map_nil, envOf, get, put, eval, ofV, nbeq, nble, binV, binV.aggV, unV, intV, eqOp, isConst, natV, optV, loadV, loadC, storeV, setC, St.at_, partV, indexAddrV, fieldAddrV, sliceV, sliceV.rowSl, sliceV.strSl, bounds, cutP,
    builtinV, lenV, maxL, maxV, appendV, St.elems, roomy, rowOf, rowS, isStr, esz, tdOf, convV, buildV, fillV, partsV, okParts, fillL, D.whole, D.demoteC, D.demote, demoteL, D.global, D.leaf, D.cells, TI.agg, TD.rowish, callOpV, CC, keepB, St.borrowL, St.borrow, D.isLsl, adoptR, adoptC, adoptCL, adoptL, adopt, upd,
    List.toArray, Array.toList, List.length_cons, List.length_nil, List.length_map, List.length_append, List.length_replicate, List.replicate_succ, List.replicate_zero, List.replicate_one, ← List.map_take, ← List.map_drop, List.drop_zero, List.take_succ_cons, List.take_zero, List.take_nil, List.drop_succ_cons, List.drop_nil, Nat.zero_le, Nat.le_refl, Nat.sub_zero, List.getElem?_cons_succ, List.getElem?_cons_zero, List.getElem?_nil, List.any_cons, List.any_nil, List.all_cons, List.all_nil, List.append_nil, List.nil_append, List.cons_append, List.set_cons_zero, List.set_cons_succ,
    cond_true, cond_false, decide_true, decide_false, Bool.true_and, Bool.and_true, Bool.false_and, Bool.and_false, Bool.true_or, Bool.or_true, Bool.false_or, Bool.or_false, Bool.not_true, Bool.not_false, Bool.and_self, Bool.or_self, bT, bF, ieq, ine, decide_eq_true_eq, decide_not,
    Nat.reduceEqDiff, Nat.reduceAdd, Nat.reduceSub, Nat.reduceMul, Nat.reduceLeDiff, Nat.reduceLT, Nat.zero_add, Nat.add_zero, Option.getD_some, Option.getD_none, Option.isSome_some, Option.isSome_none, reduceIte, reduceCtorEq, and_self, and_true, true_and, not_true_eq_false, not_false_eq_true, false_imp_iff, forall_const, imp_self,
    Int.reduceNeg, Int.reduceLT, Int.reduceLE, Int.reduceGT, Int.reduceGE, Int.reduceAdd, Int.reduceSub, Int.reduceMul, Int.reduceToNat, Int.reduceEq, ne_eq, eq_self, beq_self_eq_true]

end Go.Proofs.YtdmlojinmkcldaaDoor.V
