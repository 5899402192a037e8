/-
Layer 7: the callees, one by one; a span as an argument.
-/
import Derived.Test.YtdmlojinmkcldaaDoorKC
import Derived.Test.YtdmlojinmkcldaaDoorSA
namespace Go.Proofs.YtdmlojinmkcldaaDoor
open Go.ChangeShapes Go.WideShapes Go.RowKit
namespace V

noncomputable abbrev K1 : Callees := upd noCallees 24 numV
noncomputable abbrev K2 : Callees := upd K1 23 (runV T K1 fi23)
noncomputable abbrev K3 : Callees := upd K2 25 (runV T K2 fi25)
noncomputable abbrev K4 : Callees := upd K3 27 (runV T K3 fi27)
noncomputable abbrev K5 : Callees := upd K4 29 (runV T K4 fi29)
noncomputable abbrev K6 : Callees := upd K5 31 (runV T K5 fi31)
noncomputable abbrev K7 : Callees := upd K6 33 (runV T K6 fi33)
noncomputable abbrev K8 : Callees := upd K7 35 (runV T K7 fi35)
noncomputable abbrev K9 : Callees := upd K8 59 (runV T K8 fi59)
noncomputable abbrev K10 : Callees := upd K9 26 (runV T K9 fi26)
noncomputable abbrev K11 : Callees := upd K10 28 (runV T K10 fi28)
noncomputable abbrev K12 : Callees := upd K11 30 (runV T K11 fi30)
noncomputable abbrev K13 : Callees := upd K12 32 (runV T K12 fi32)
noncomputable abbrev K14 : Callees := upd K13 34 (runV T K13 fi34)
noncomputable abbrev K15 : Callees := upd K14 36 (runV T K14 fi36)
noncomputable abbrev K16 : Callees := upd K15 21 (runV T K15 fi21)
noncomputable abbrev K17 : Callees := upd K16 22 (runV T K16 fi22)

theorem k17_ok {c : Cx} (hP : c.P = Tryd.prog) (hl : laidAt c) : CallOK c K17 :=
  CallOK.more hP (CallOK.more hP (CallOK.more hP (CallOK.more hP (CallOK.more hP (CallOK.more hP (CallOK.more hP (CallOK.more hP (CallOK.more hP (CallOK.more hP (CallOK.more hP (CallOK.more hP (CallOK.more hP (CallOK.more hP (CallOK.more hP (CallOK.more hP (num_ok hP hl CallOK.none)
    ok23) ok25) ok27) ok29) ok31) ok33) ok35) ok59) ok26) ok28) ok30) ok32) ok34) ok36) ok21) ok22

theorem k9_less (a b : List UInt8) (B : Hp) (h : a.length ≤ 1000000) : K9 59 [.str a, .str b] B = some (.bool (lt a b), B) := upd_hit (run59 K8 a b B h)
theorem k10_less (a b : List UInt8) (B : Hp) (h : a.length ≤ 1000000) : K10 59 [.str a, .str b] B = some (.bool (lt a b), B) := upd_skip rfl (k9_less a b B h)
theorem k11_less (a b : List UInt8) (B : Hp) (h : a.length ≤ 1000000) : K11 59 [.str a, .str b] B = some (.bool (lt a b), B) := upd_skip rfl (k10_less a b B h)
theorem k12_less (a b : List UInt8) (B : Hp) (h : a.length ≤ 1000000) : K12 59 [.str a, .str b] B = some (.bool (lt a b), B) := upd_skip rfl (k11_less a b B h)
theorem k13_less (a b : List UInt8) (B : Hp) (h : a.length ≤ 1000000) : K13 59 [.str a, .str b] B = some (.bool (lt a b), B) := upd_skip rfl (k12_less a b B h)

theorem known07_k16 : Known07 K16 where
  check key B := by (repeat refine upd_skip rfl ?_); exact upd_hit (run23 K1 key B)
  has lo hi key op B := by (repeat refine upd_skip rfl ?_); exact upd_hit (run25 K2 lo hi key op B)
  empty lo hi op B := by (repeat refine upd_skip rfl ?_); exact upd_hit (run27 K3 lo hi op B)
  of l B h := by (repeat refine upd_skip rfl ?_); exact upd_hit (run29 K4 l B h)
  meet alo ahi blo bhi aop bop B := by (repeat refine upd_skip rfl ?_); exact upd_hit (run31 K5 alo ahi blo bhi aop bop B)
  within alo ahi blo bhi aop bop B := by (repeat refine upd_skip rfl ?_); exact upd_hit (run33 K6 (fun lo hi op B => upd_skip rfl (upd_skip rfl (upd_hit (run27 K3 lo hi op B)))) alo ahi blo bhi aop bop B)
  next key B h := by (repeat refine upd_skip rfl ?_); exact upd_hit (run35 K7 key B h)
  rhas lo hi key op B h := by (repeat refine upd_skip rfl ?_); exact upd_hit (run26 K9 k9_less lo hi key op B h)
  rempty lo hi op B h := by (repeat refine upd_skip rfl ?_); exact upd_hit (run28 K10 k10_less lo hi op B h)
  rof l B h := by (repeat refine upd_skip rfl ?_); exact upd_hit (run30 K11 l B h)
  rmeet alo ahi blo bhi aop bop B h1 h2 := by (repeat refine upd_skip rfl ?_); exact upd_hit (run32 K12 k12_less alo ahi blo bhi aop bop B h1 h2)
  rwithin alo ahi blo bhi aop bop B h1 h2 h3 := by (repeat refine upd_skip rfl ?_); exact upd_hit (run34 K13 k13_less (fun lo hi op B h => upd_skip rfl (upd_skip rfl (upd_hit (run28 K10 k10_less lo hi op B h)))) alo ahi blo bhi aop bop B h1 h2 h3)
  begins s p B := by (repeat refine upd_skip rfl ?_); exact upd_hit (run36 K14 s p B)
  numN _ := by (repeat refine upd_skip rfl ?_); exact upd_hit rfl
  numE _ _ := by (repeat refine upd_skip rfl ?_); exact upd_hit rfl

theorem known07_k17 : Known07 K17 where
  check key B := upd_skip rfl (known07_k16.check key B)
  has lo hi key op B := upd_skip rfl (known07_k16.has lo hi key op B)
  empty lo hi op B := upd_skip rfl (known07_k16.empty lo hi op B)
  of l B h := upd_skip rfl (known07_k16.of l B h)
  meet alo ahi blo bhi aop bop B := upd_skip rfl (known07_k16.meet alo ahi blo bhi aop bop B)
  within alo ahi blo bhi aop bop B := upd_skip rfl (known07_k16.within alo ahi blo bhi aop bop B)
  next key B h := upd_skip rfl (known07_k16.next key B h)
  rhas lo hi key op B h := upd_skip rfl (known07_k16.rhas lo hi key op B h)
  rempty lo hi op B h := upd_skip rfl (known07_k16.rempty lo hi op B h)
  rof l B h := upd_skip rfl (known07_k16.rof l B h)
  rmeet alo ahi blo bhi aop bop B h1 h2 := upd_skip rfl (known07_k16.rmeet alo ahi blo bhi aop bop B h1 h2)
  rwithin alo ahi blo bhi aop bop B h1 h2 h3 := upd_skip rfl (known07_k16.rwithin alo ahi blo bhi aop bop B h1 h2 h3)
  begins s p B := upd_skip rfl (known07_k16.begins s p B)
  numN B := upd_skip rfl (known07_k16.numN B)
  numE n B := upd_skip rfl (known07_k16.numE n B)

theorem k17_long (ls : List (List UInt8)) (p : Perm) (B : Hp) (h : ls.length ≤ 1000) : K17 21 [.vec 1 (ls.map .str) p] B = some (.bool (longS ls), B) := upd_skip rfl (upd_hit (run21 K15 ls p B h))
theorem k17_sure (B : Hp) : K17 22 [] B = some (.bool true, B) := upd_hit (run22 K16 known07_k16 B)

set_option maxRecDepth 100000 in
/-- A span as an argument. -/
theorem arg_span {W : World} {r : Reach} {b0 : Nat} {v : Value} (hval : Value.okWide Tryd.prog W r b0 37 v) : ∃ (lo hi : List UInt8) (op : Bool), Rep (fun _ => 0) (sizeAt W) W (spD lo hi op) v := by
  have g1 : isAggB Tryd.prog 37 = true := by kernel_rfl
  have g2 : Tryd.prog.cellTypes Tryd.prog.depth 37 = some [9, 9, 4] := by kernel_rfl
  obtain ⟨cs, rfl, hsz, hc⟩ := arg_agg g1 g2 hval
  have hs3 : cs.size = 3 := hsz.trans (by kernel_rfl)
  have us : Tryd.prog.underlying 9 = some .string := by kernel_rfl
  have ub : Tryd.prog.underlying 4 = some .bool := by kernel_rfl
  obtain ⟨u0, e0, c0⟩ := hc 0 _ (Array.getElem?_eq_getElem (by omega))
  obtain ⟨u1, e1, c1⟩ := hc 1 _ (Array.getElem?_eq_getElem (by omega))
  obtain ⟨u2, e2, c2⟩ := hc 2 _ (Array.getElem?_eq_getElem (by omega))
  injection e0 with e0; injection e1 with e1; injection e2 with e2
  subst e0; subst e1; subst e2
  obtain ⟨s0, x0⟩ := cell_str us c0
  obtain ⟨s1, x1⟩ := cell_str us c1
  obtain ⟨b, x2⟩ := cell_bool ub c2
  refine ⟨s0.data.toList, s1.data.toList, b, rep_agg (by simp [hs3]) (fun i d hi => ?_)⟩
  rcases i with _ | _ | _ | i
  · simp at hi; subst hi; exact ⟨_, Array.getElem?_eq_getElem (by omega), by rw [x0]; exact .str s0⟩
  · simp at hi; subst hi; exact ⟨_, Array.getElem?_eq_getElem (by omega), by rw [x1]; exact .str s1⟩
  · simp at hi; subst hi; exact ⟨_, Array.getElem?_eq_getElem (by omega), by rw [x2]; exact .bool b⟩
  · simp at hi

set_option maxRecDepth 100000 in
/-- Two texts as an argument. -/
theorem arg_two {W : World} {r : Reach} {b0 : Nat} {v : Value} (hval : Value.okWide Tryd.prog W r b0 53 v) : ∃ (a b : List UInt8), Rep (fun _ => 0) (sizeAt W) W (.agg [.str a, .str b]) v := by
  have g1 : isAggB Tryd.prog 53 = true := by kernel_rfl
  have g2 : Tryd.prog.cellTypes Tryd.prog.depth 53 = some [9, 9] := by kernel_rfl
  obtain ⟨cs, rfl, hsz, hc⟩ := arg_agg g1 g2 hval
  have hs3 : cs.size = 2 := hsz.trans (by kernel_rfl)
  have us : Tryd.prog.underlying 9 = some .string := by kernel_rfl
  obtain ⟨u0, e0, c0⟩ := hc 0 _ (Array.getElem?_eq_getElem (by omega))
  obtain ⟨u1, e1, c1⟩ := hc 1 _ (Array.getElem?_eq_getElem (by omega))
  injection e0 with e0; injection e1 with e1
  subst e0; subst e1
  obtain ⟨s0, x0⟩ := cell_str us c0
  obtain ⟨s1, x1⟩ := cell_str us c1
  refine ⟨s0.data.toList, s1.data.toList, rep_agg (by simp [hs3]) (fun i d hi => ?_)⟩
  rcases i with _ | _ | i
  · simp at hi; subst hi; exact ⟨_, Array.getElem?_eq_getElem (by omega), by rw [x0]; exact .str s0⟩
  · simp at hi; subst hi; exact ⟨_, Array.getElem?_eq_getElem (by omega), by rw [x1]; exact .str s1⟩
  · simp at hi

end V
end Go.Proofs.YtdmlojinmkcldaaDoor
