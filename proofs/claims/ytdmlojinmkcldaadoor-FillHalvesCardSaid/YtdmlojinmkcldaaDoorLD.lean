/-
Layer 11: what must come whatever the input is; FillSplits.
-/
import Derived.Test.YtdmlojinmkcldaaDoorLC
import Derived.Test.YtdmlojinmkcldaaDoorNC
namespace Go.Proofs.YtdmlojinmkcldaaDoor.V
open Go Go.RowKit
set_option linter.unusedSimpArgs false
set_option linter.unusedVariables false

/-! warren/warrenlaw11.sure -/
def an14 : An := ⟨fun _ => .none, fun _ => false⟩
noncomputable def fi14 : FI := ⟨0, 66, Tryd.f14.body.getD .skip, Tryd.f14.results.toList, an14⟩
theorem ok14 : FnOk Tryd.prog 14 fi14 := ⟨⟨Tryd.f14, Tryd.func14, by kernel_rfl, rfl, rfl, rfl⟩, by decide, by kernel_rfl⟩

def mostS (n : Int) : D := if n < 0 ∨ 1073741824 < n then .tuple [.int .i64 0, .iface 77 (.int .i64 1)] else .tuple [.int .i64 (1 + n / 126), .nili]

/-- What is known of the functions that the laws of layer 11 call. -/
structure Known11 (C : Callees) : Prop where
  split : ∀ (l : List Int) (d : D) (bes : Int) (B : Hp), Sl d l → C 15 [d, .int .i64 bes] B = some (splitS l bes, B)
  most : ∀ (n : Int) (B : Hp), C 17 [.int .i64 n] B = some (mostS n, B)
  enough : ∀ (n : Int) (B : Hp), C 19 [.int .i64 n] B = some (.bool (decide (126 ≤ n)), B)
  fits : ∀ (n : Int) (B : Hp), C 20 [.int .i64 n] B = some (.bool (decide (0 ≤ n) && decide (n ≤ 504)), B)
  numN : ∀ (B : Hp), C 18 [.nili] B = some (.int .i64 0, B)
  numE : ∀ (n : Int) (B : Hp), C 18 [.iface 77 (.int .i64 n)] B = some (.int .i64 n, B)
  ref : ∀ (l : List Int) (d : D) (bes : Int) (B : Hp), Sl d l → C 16 [d, .int .i64 bes] B = some (.tuple [.int .i64 (refSplitS l bes).1, .int .i64 (refSplitS l bes).2], B)

theorem split_a : splitS [100, 100, 300] 0 = .tuple [.int .i64 2, .nili] := by
  have e : split2 0 ([100, 100, 300] : List Int).sum (([100, 100, 300] : List Int).take (([100, 100, 300] : List Int).length - 1)) 0 0 0 0 = (2, 300) := by decide
  unfold splitS
  rw [if_neg (by simp [badS]), e, if_neg (by simp)]
theorem split_b : splitS [600, 1] 0 = .tuple [.int .i64 0, .iface 77 (.int .i64 5)] := by
  have e : split2 0 ([600, 1] : List Int).sum (([600, 1] : List Int).take (([600, 1] : List Int).length - 1)) 0 0 0 0 = (1, 600) := by decide
  unfold splitS
  rw [if_neg (by simp [badS]), e, if_pos (by simp)]
theorem split_c : splitS [1] 0 = .tuple [.int .i64 0, .iface 77 (.int .i64 1)] := by
  simp [splitS]
theorem most_a : mostS 252 = .tuple [.int .i64 3, .nili] := by
  simp [mostS]

set_option maxRecDepth 10000 in
theorem run14 (C : Callees) (hk : Known11 C) (B : Hp) : runV T C fi14 [] B = some (.bool true, B) := by
  have h1 := hk.split [100, 100, 300] _ 0 B (.inr ⟨.exact, rfl⟩)
  have h2 := hk.split [600, 1] _ 0 B (.inr ⟨.exact, rfl⟩)
  have h3 := hk.split [1] _ 0 B (.inr ⟨.exact, rfl⟩)
  have h4 := hk.most 252 B
  have h5 := hk.numE 5 B
  have h6 := hk.numE 1 B
  have h7 := hk.enough 126 B
  have h8 := hk.enough 125 B
  have h9 := hk.fits 504 B
  have h10 := hk.fits 505 B
  simp only [split_a, split_b, split_c, most_a, List.map_cons, List.map_nil] at h1 h2 h3 h4
  rw [e_run _ _ _ rfl]
  simp only [fi14, Tryd.f14, an14, h1, h2, h3, h4, h5, h6, h7, h8, h9, h10, dp, List.replicate_succ, List.replicate_zero, T3, T4, T22, T25, e_seq, e_region, e_block, e_cond, e_ret, e_skip, e_exit, e_plain, e_guard, e_nil, e_op, e_ifT, e_ifF, e_true, e_false, e_loop, e_l, e_top, e_seqN, e_seqE, e_seqR, e_blockN, e_blockR, e_blockE,
    e_finN, e_finX, e_finR, retV, resV, resL, outCL, outC, outL, outD, wantedV, opV, An.at_, prune, List.map_cons, List.map_nil, envOf, get, put, eval, ofV, nbeq, nble, binV, binV.aggV, unV, intV, eqOp, isConst, natV, optV, loadV, loadC, storeV, setC, St.at_, partV, indexAddrV, fieldAddrV, sliceV, sliceV.rowSl, sliceV.strSl, bounds, cutP,
    builtinV, lenV, maxL, maxV, appendV, St.elems, roomy, rowOf, rowS, isStr, esz, tdOf, convV, buildV, fillV, partsV, okParts, fillL, D.whole, D.demoteC, D.demote, demoteL, D.global, D.leaf, D.cells, TI.agg, TD.rowish, callOpV, CC, keepB, St.borrowL, St.borrow, D.isLsl, adoptR, adoptC, adoptCL, adoptL, adopt, upd,
    List.toArray, Array.toList, List.length_cons, List.length_nil, List.length_map, List.length_append, List.length_replicate, ← List.map_take, ← List.map_drop, List.drop_zero, Nat.zero_le, Nat.le_refl, Nat.sub_zero, List.getElem?_cons_succ, List.getElem?_cons_zero, List.getElem?_nil, List.any_cons, List.any_nil, List.all_cons, List.all_nil, List.append_nil, List.nil_append, List.cons_append, List.set_cons_zero, List.set_cons_succ,
    cond_true, cond_false, decide_true, decide_false, Bool.true_and, Bool.and_true, Bool.false_and, Bool.and_false, Bool.true_or, Bool.or_true, Bool.false_or, Bool.or_false, Bool.not_true, Bool.not_false, Bool.and_self, Bool.or_self, bT, bF, ieq, ine, decide_eq_true_eq, decide_not,
    Nat.reduceEqDiff, Nat.reduceAdd, Nat.reduceSub, Nat.reduceMul, Nat.reduceLeDiff, Nat.reduceLT, Nat.zero_add, Nat.add_zero, Option.getD_some, Option.getD_none, Option.isSome_some, Option.isSome_none, reduceIte, reduceCtorEq, and_self, and_true, true_and, not_true_eq_false, not_false_eq_true, false_imp_iff, forall_const, imp_self,
    Int.reduceNeg, Int.reduceLT, Int.reduceLE, Int.reduceAdd, Int.reduceSub, Int.reduceMul, Int.reduceToNat, Int.reduceEq, ne_eq, eq_self, beq_self_eq_true]

/-! ### The plain law: the program's place is the document's -/
theorem gr2_eq (at_ : Nat) : ∀ (l : List Int) (k : Nat) (a b : Int), gr2 at_ l k a b = (a + (l.take (at_ - k)).sum, b + (l.drop (at_ - k)).sum)
  | [], k, a, b => by simp [gr2]
  | n :: l, k, a, b => by
    simp only [gr2]
    by_cases h : k < at_
    · have h' : (k : Int) < at_ := by omega
      rw [if_pos h', gr2_eq at_ l (k + 1) (a + n) b]
      have e : at_ - k = (at_ - (k + 1)) + 1 := by omega
      rw [e, List.take_succ_cons, List.drop_succ_cons, List.sum_cons, Int.add_assoc]
    · have h' : ¬ (k : Int) < at_ := by omega
      rw [if_neg h', gr2_eq at_ l (k + 1) a (b + n)]
      have e : at_ - k = 0 := by omega
      have e2 : at_ - (k + 1) = 0 := by omega
      rw [e, e2]
      simp only [List.take_zero, List.drop_zero, List.sum_cons, Int.add_assoc]

theorem sum_split (l : List Int) (k : Nat) : (l.take k).sum + (l.drop k).sum = l.sum := by
  rw [← List.sum_append, List.take_append_drop]

theorem greater_eq (bes : Int) (l : List Int) (k : Nat) : greaterS bes k l = great bes l.sum (l.take k).sum := by
  have := sum_split l k
  unfold greaterS great
  rw [gr2_eq k l 0 bes bes]
  simp only [Nat.sub_zero]
  omega

theorem gr2_ge (at_ : Int) : ∀ (l : List Int) (k : Nat) (a b : Int), ¬ badS l → a ≤ (gr2 at_ l k a b).1
  | [], k, a, b, _ => by simp [gr2]
  | n :: l, k, a, b, h => by
    rw [badS_cons] at h
    have h1 : ¬ (n < 0 ∨ 1024 < n) := fun h' => h (.inl h')
    have h2 : ¬ badS l := fun h' => h (.inr h')
    simp only [gr2]
    split
    · have := gr2_ge at_ l (k + 1) (a + n) b h2; omega
    · exact gr2_ge at_ l (k + 1) a (b + n) h2

theorem split2_ref (bes : Int) (l : List Int) : ∀ (m k : Nat) (at_ : Int), l.length - 1 - k = m → k ≤ l.length - 1 → at_ ≠ 0 →
    split2 bes l.sum ((l.take (l.length - 1)).drop k) k at_ (greaterS bes at_ l) (l.take k).sum = (refAt bes l m (k + 1) at_, greaterS bes (refAt bes l m (k + 1) at_) l) := by
  intro m
  induction m with
  | zero =>
    intro k at_ hm hk h0
    have : (l.take (l.length - 1)).drop k = [] := List.drop_eq_nil_of_le (by simp; omega)
    rw [this]; rfl
  | succ m ih =>
    intro k at_ hm hk h0
    have hlt : k < (l.take (l.length - 1)).length := by simp; omega
    have hlt2 : k < l.length := by omega
    rw [List.drop_eq_getElem_cons hlt]
    simp only [List.getElem_take, split2, h0, false_or]
    have hs : (l.take k).sum + l[k] = (l.take (k + 1)).sum := by
      rw [List.take_add_one, List.sum_append, List.getElem?_eq_getElem hlt2]; simp
    rw [hs]
    have hg := greater_eq bes l (k + 1)
    rw [← hg]
    simp only [refAt]
    have hc : ((k : Int) + 1) = ((k + 1 : Nat) : Int) := by omega
    by_cases hlt3 : greaterS bes ((k + 1 : Nat) : Int) l < greaterS bes at_ l
    · rw [if_pos hlt3, if_pos hlt3, hc]
      exact ih (k + 1) ((k + 1 : Nat) : Int) (by omega) (by omega) (by omega)
    · rw [if_neg hlt3, if_neg hlt3]
      exact ih (k + 1) at_ (by omega) (by omega) h0

theorem split2_all (bes : Int) (l : List Int) (h2 : ¬ l.length < 2) :
    split2 bes l.sum (l.take (l.length - 1)) 0 0 0 0 = (refAt bes l (l.length - 2) 2 1, greaterS bes (refAt bes l (l.length - 2) 2 1) l) := by
  have hlt : 0 < (l.take (l.length - 1)).length := by simp; omega
  have hlt2 : 0 < l.length := by omega
  have hd := List.drop_eq_getElem_cons hlt
  rw [List.drop_zero] at hd
  rw [hd]
  simp only [List.getElem_take, split2, true_or, if_true, Int.zero_add]
  have hs : l[0] = (l.take 1).sum := by
    rw [show (1 : Nat) = 0 + 1 from rfl, List.take_add_one, List.sum_append, List.getElem?_eq_getElem hlt2]; simp
  rw [hs]
  have hg := greater_eq bes l 1
  rw [← hg]
  have := split2_ref bes l (l.length - 2) 1 1 (by omega) (by omega) (by omega)
  simpa using this

theorem split_ref (l : List Int) (bes : Int) : splitS l bes = .tuple [.int .i64 (refSplitS l bes).1, if (refSplitS l bes).2 = 0 then .nili else .iface 77 (.int .i64 (refSplitS l bes).2)] := by
  unfold splitS refSplitS
  by_cases hg : l.length < 2 ∨ 1024 < l.length ∨ bes < 0 ∨ 1024 < bes ∨ badS l
  · rw [if_pos hg, if_pos hg]; simp
  · rw [if_neg hg, if_neg hg]
    have h2 : ¬ l.length < 2 := fun h => hg (.inl h)
    have h3 : ¬ badS l := fun h => hg (.inr (.inr (.inr (.inr h))))
    have h4 : ¬ bes < 0 := fun h => hg (.inr (.inr (.inl h)))
    rw [split2_all bes l h2]
    have hge : 0 ≤ greaterS bes (refAt bes l (l.length - 2) 2 1) l := by
      have := gr2_ge (refAt bes l (l.length - 2) 2 1) l 0 bes bes h3
      unfold greaterS; omega
    by_cases h5 : 504 < greaterS bes (refAt bes l (l.length - 2) 2 1) l
    · rw [if_pos h5, if_pos (by simp only; omega)]; simp
    · rw [if_neg h5, if_neg (by simp only; omega)]; simp

end Go.Proofs.YtdmlojinmkcldaaDoor.V
