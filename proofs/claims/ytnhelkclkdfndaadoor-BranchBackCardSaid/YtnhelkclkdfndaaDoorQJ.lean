/-
Layer 9: sure, BranchForms, BranchBack.
-/
import Derived.Test.YtnhelkclkdfndaaDoorQI
namespace Go.Proofs.YtnhelkclkdfndaaDoor.V
open Go Go.RowKit
set_option linter.unusedSimpArgs false
set_option linter.unusedVariables false

variable {C : Callees}

theorem num1 (hC : Known09 C) (B : Hp) : C 71 [.iface 163 (.int .i64 1)] B = some (.int .i64 1, B) := hC.num 1 B
theorem num3 (hC : Known09 C) (B : Hp) : C 71 [.iface 163 (.int .i64 3)] B = some (.int .i64 3, B) := hC.num 3 B
theorem num5 (hC : Known09 C) (B : Hp) : C 71 [.iface 163 (.int .i64 5)] B = some (.int .i64 5, B) := hC.num 5 B

theorem enc_b : encF [[98]] [2, 3] = [0, 2, 1, 98, 0, 3] := by
  rw [encF, tailF, vputS_small (by decide)]; rfl
theorem may_b : mayF [[98]] [2, 3] = true := by decide

set_option maxRecDepth 20000 in
set_option maxHeartbeats 2000000 in
theorem run66 (hC : Known09 C) : runV T C fi66 [] [] = some (.bool true, []) := by
  rw [e_run _ _ _ rfl]
  have hL := hC.toLib09C
  have ee : encE [[98]] [2, 3] = 0 := by decide
  have c1 : C 67 [.agg [.vec 1 [.str [98]] .none, .vec 1 [.int .i64 2, .int .i64 3] .none]] [] = some (.tuple [.vec 1 [.int .u8 0, .int .u8 2, .int .u8 1, .int .u8 98, .int .u8 0, .int .u8 3] .fresh, .nili], []) := by
    have := c67 hL.toLib09B [[98]] [2, 3] (by decide) (by decide) []
    unfold encV at this
    rw [ee, if_pos rfl, enc_b, errD_zero] at this
    exact this
  have c2 : C 69 [.vec 1 [.int .u8 0, .int .u8 2, .int .u8 1, .int .u8 98, .int .u8 0, .int .u8 3] .none] [] = some (.tuple [.agg [.vec 1 [.str [98]] .fresh, .vec 1 [.int .i64 2, .int .i64 3] .fresh], .nili], []) := by
    have := c69 hL.toLib09B (encF [[98]] [2, 3]) (by rw [enc_b]; decide)
    rw [decF_enc may_b (by decide), enc_b] at this
    exact this
  have c3 : C 67 [.agg [.vec 1 [] .none, .vec 1 [.int .i64 2] .none]] [] = some (.tuple [.vec 1 [] .fresh, .iface 163 (.int .i64 1)], []) := by
    have := c67 hL.toLib09B [] [2] (by decide) (by decide) []
    have e : encE [] [2] = 1 := by decide
    unfold encV at this
    rw [e, if_neg (by decide), errD_pos (by decide)] at this
    exact this
  have hs : sortK [[98], [100]] := by
    intro i j hij hj
    match i, j, hij, hj with
    | 0, 1, _, _ => rfl
    | 0, 0, h, _ => omega
    | i + 1, 1, h, _ => omega
    | i + 1, 0, h, _ => omega
    | _, j + 2, _, h => simp only [List.length_cons, List.length_nil] at h; omega
  have c4 : C 75 [.vec 1 [.str [98], .str [100]] .none, .str [98]] [] = some (.int .i64 1, []) := by
    obtain ⟨n, h1, h2, h3, h4⟩ := c75 hL.toLib09A [[98], [100]] [98] (by decide) hs []
    have : n = 1 := by
      match n, h1, h2, h3 with
      | 0, _, _, h3 => exact absurd (h3 (by decide)) (by decide)
      | 1, _, _, _ => rfl
      | 2, _, h2, _ => exact absurd (h2 (by decide)) (by decide)
      | n + 3, h1, _, _ => simp at h1
    subst this
    exact h4
  have c5 : C 75 [.vec 1 [.str [98], .str [100]] .none, .str [97]] [] = some (.int .i64 0, []) := by
    obtain ⟨n, h1, h2, h3, h4⟩ := c75 hL.toLib09A [[98], [100]] [97] (by decide) hs []
    have : n = 0 := by
      match n, h1, h2, h3 with
      | 0, _, _, _ => rfl
      | 1, _, h2, _ => exact absurd (h2 (by decide)) (by decide)
      | 2, _, h2, _ => exact absurd (h2 (by decide)) (by decide)
      | n + 3, h1, _, _ => simp at h1
    subst this
    exact h4
  have n1 := num1 hC
  have y1 : bytesOf [.int .u8 0, .int .u8 2, .int .u8 1, .int .u8 98, .int .u8 0, .int .u8 3] = some [0, 2, 1, 98, 0, 3] := by kernel_rfl
  have y2 : strV .eql [0, 2, 1, 98, 0, 3] [0, 2, 1, 98, 0, 3] = some (.bool true) := by kernel_rfl
  simp only [fi66, Tryd.f66, an66, nlit9, c1, c2, c3, c4, c5, n1, y1, y2, T3, T5, T9, T33, T68, T137, T145, T149, EL, e_finWf, e_finWt, e_finMN, e_finMX, retM, meltV, tupV, D.asBox, D.row1, D.freeR, D.freeO, List.replicate_succ, stepD, accs, accP, accW, simpleOp, isAl, isExt, flipD, D.fresh1, D.row, D.plain, D.plain.plainL, St.close, St.close1, St.borrow, retV, resV, resL, outCL, outC, outL, outD, wantedV, opV, An.mid, thawV, St.settle, D.plainU, prune, envOf, get, put, eval, evalT, nz, argsV, capsV, ofV, binV, binV.aggV, unV, intV, eqOp, isConst, natV, optV, loadV, loadC, storeV, setC, St.at_, partV, partTy, indexAddrV, fieldAddrV, sliceV, sliceV.rowSl, sliceV.strSl, bounds, cutP, builtinV, lenV, maxL, maxV, appendV, St.elems, roomy, rowOf, rowS, isStr, esz, tdOf, convV, buildV, fillV, partsV, okParts, fillL, D.whole, D.demoteC, D.demote, demoteL, D.global, D.flat, D.leaf, D.cells, TI.agg, TD.rowish, callOpV, moveL, CC, keepB, St.borrowL, St.borrow, D.isLsl, adoptR, adoptC, adoptCL, adoptL, adopt, List.toArray, Array.toList, Nat.reduceEqDiff, Nat.reduceAdd, Nat.reduceSub, Nat.reduceMul, Nat.reduceLeDiff, Nat.reduceLT, reduceIte, reduceCtorEq, forall_const, imp_self, Int.reduceNeg, Int.reduceLT, Int.reduceLE, Int.reduceGT, Int.reduceGE, Int.reduceAdd, Int.reduceSub, Int.reduceMul, Int.reduceToNat, Int.reduceEq, ne_eq, eq_self]
  done
theorem c66 (hC : Known09 C) : C 66 [] [] = some (.bool true, []) := hC.f66 _ _ _ (run66 hC)

theorem parse_few : ∀ (n : Nat) (q : List UInt8), q.length ≤ n → ∀ acc, parseF q = some acc → acc.length ≤ q.length
  | n, q, hn, acc, h => by
    by_cases hq : q = []
    · subst hq
      rw [parseF_nil] at h
      injection h with h
      subst h
      simp
    · cases h2 : (bytesP (some q) 40).1 with
      | none => rw [parseF_bad hq (fun a b r e => by rw [h2] at e; cases e)] at h; cases h
      | some r1 =>
        obtain ⟨q', e1, e2, e3⟩ := bytesP_len h2
        injection e1 with e1
        subst e1
        match r1, h2, e3 with
        | [], h2, _ => rw [parseF_bad hq (fun a b r e => by rw [h2] at e; cases e)] at h; cases h
        | [y], h2, _ => rw [parseF_bad hq (fun a b r e => by rw [h2] at e; cases e)] at h; cases h
        | a :: b :: r, h2, e3 =>
          have h3 : bytesP (some q) 40 = (some (a :: b :: r), (bytesP (some q) 40).2) := by rw [← h2]
          rw [parseF_ok hq h3] at h
          cases hr : parseF r with
          | none => rw [hr] at h; cases h
          | some acc2 =>
            rw [hr] at h
            injection h with h
            subst h
            simp at e3
            match n, hn with
            | 0, hn => exact absurd (List.length_eq_zero_iff.1 (by omega)) hq
            | n + 1, hn =>
              have := parse_few n r (by omega) acc2 hr
              simp; omega
theorem decF_few {l : List UInt8} {ks : List Ky} {ns : List Int} (h : decF l = some (ks, ns)) : ks.length ≤ 1000 ∧ ns.length ≤ 1000 := by
  unfold decF at h
  split at h
  · cases h
  · rename_i hl
    split at h
    · rename_i x hx
      split at h
      · injection h with h
        subst h
        match l, hl, hx with
        | a :: b :: r, hl, hx =>
          unfold decL at hx
          simp only at hx
          cases hr : parseF r with
          | none => rw [hr] at hx; cases hx
          | some acc =>
            rw [hr] at hx
            injection hx with hx
            injection hx with h3 h4
            have := parse_few r.length r (Nat.le_refl _) acc hr
            rw [← h3, ← h4]
            simp at hl ⊢; omega
      · cases h
    · cases h

theorem str_eq (a : List UInt8) : strV .eql a a = some (.bool true) := by simp [strV]

set_option maxRecDepth 20000 in
set_option maxHeartbeats 4000000 in
theorem run12 (hC : Known09 C) (ks : List Ky) (ns : List Int) (hk : ks.length ≤ 9223372036854775807) (b : List UInt8) : runV T C fi12 [.agg [strR ks .none, intR ns .none], .vec 1 (b.map byteD) .none] [] = some (.bool true, []) := by
  rw [e_run _ _ _ rfl]
  have hL := hC.toLib09C
  have c0 := c66 hC
  rcases run65 C ks ns hk [] with h | ⟨h1, h2, h3, h⟩
  · have b1 := hL.f65 _ _ _ h
    simp only [fi12, Tryd.f12, an12, c0, b1, T3, T4, T5, T9, T33, T68, T137, T145, T147, T149, EL, e_finWf, e_finWt, e_finMN, e_finMX, retM, meltV, tupV, D.asBox, D.row1, D.freeR, D.freeO, List.replicate_succ, stepD, accs, accP, accW, simpleOp, isAl, isExt, flipD, D.fresh1, D.row, D.plain, D.plain.plainL, St.close, St.close1, St.borrow, retV, resV, resL, outCL, outC, outL, outD, wantedV, opV, An.mid, thawV, St.settle, D.plainU, prune, envOf, get, put, eval, evalT, nz, argsV, capsV, ofV, binV, binV.aggV, unV, intV, eqOp, isConst, natV, optV, loadV, loadC, storeV, setC, St.at_, partV, partTy, indexAddrV, fieldAddrV, sliceV, sliceV.rowSl, sliceV.strSl, bounds, cutP, builtinV, lenV, maxL, maxV, appendV, St.elems, roomy, rowOf, rowS, isStr, esz, tdOf, convV, buildV, fillV, partsV, okParts, fillL, D.whole, D.demoteC, D.demote, demoteL, D.global, D.flat, D.leaf, D.cells, TI.agg, TD.rowish, callOpV, moveL, CC, keepB, St.borrowL, St.borrow, D.isLsl, adoptR, adoptC, adoptCL, adoptL, adopt, List.toArray, Array.toList, Nat.reduceEqDiff, Nat.reduceAdd, Nat.reduceSub, Nat.reduceMul, Nat.reduceLeDiff, Nat.reduceLT, reduceIte, reduceCtorEq, forall_const, imp_self, Int.reduceNeg, Int.reduceLT, Int.reduceLE, Int.reduceGT, Int.reduceGE, Int.reduceAdd, Int.reduceSub, Int.reduceMul, Int.reduceToNat, Int.reduceEq, ne_eq, eq_self]
  have b1 := hL.f65 _ _ _ h
  by_cases hb : (b.length : Int) > 900
  · simp only [fi12, Tryd.f12, an12, c0, b1, hb, T3, T4, T5, T9, T33, T68, T137, T145, T147, T149, EL, e_finWf, e_finWt, e_finMN, e_finMX, retM, meltV, tupV, D.asBox, D.row1, D.freeR, D.freeO, List.replicate_succ, stepD, accs, accP, accW, simpleOp, isAl, isExt, flipD, D.fresh1, D.row, D.plain, D.plain.plainL, St.close, St.close1, St.borrow, retV, resV, resL, outCL, outC, outL, outD, wantedV, opV, An.mid, thawV, St.settle, D.plainU, prune, envOf, get, put, eval, evalT, nz, argsV, capsV, ofV, binV, binV.aggV, unV, intV, eqOp, isConst, natV, optV, loadV, loadC, storeV, setC, St.at_, partV, partTy, indexAddrV, fieldAddrV, sliceV, sliceV.rowSl, sliceV.strSl, bounds, cutP, builtinV, lenV, maxL, maxV, appendV, St.elems, roomy, rowOf, rowS, isStr, esz, tdOf, convV, buildV, fillV, partsV, okParts, fillL, D.whole, D.demoteC, D.demote, demoteL, D.global, D.flat, D.leaf, D.cells, TI.agg, TD.rowish, callOpV, moveL, CC, keepB, St.borrowL, St.borrow, D.isLsl, adoptR, adoptC, adoptCL, adoptL, adopt, List.toArray, Array.toList, Nat.reduceEqDiff, Nat.reduceAdd, Nat.reduceSub, Nat.reduceMul, Nat.reduceLeDiff, Nat.reduceLT, reduceIte, reduceCtorEq, forall_const, imp_self, Int.reduceNeg, Int.reduceLT, Int.reduceLE, Int.reduceGT, Int.reduceGE, Int.reduceAdd, Int.reduceSub, Int.reduceMul, Int.reduceToNat, Int.reduceEq, ne_eq, eq_self]
  have c1 := c67 hL.toLib09B ks ns (by omega) (by omega) []
  have hlk : LongK ks := fun k hk => by have := h3 k hk; omega
  have c2 := c68 hL ks ns (by omega) (by omega) hlk []
  have c3 := c69 hL.toLib09B b (by omega)
  have c4 := c70 hL b (by omega) []
  have c5 := c73 hL.toLib09A ks ns (by omega) (by omega) []
  have c6 := c74 hL ks ns (by omega) (by omega) hlk []
  have c7 := c72 hL ks ns (by omega) (by omega) []
  have q1 := hC.num (encE ks ns) []
  have q2 := hC.num (fkE (decF b)) []
  have s1 := str_eq (encV ks ns)
  have s2 := str_eq []
  have bb : ∀ x : Bool, binV T .eql false 4 (.bool x) (.bool x) = some (.bool true) := fun x => by cases x <;> rfl
  have bt := bb true
  have bf := bb false
  have c8 : ∃ X Y, fkD (decF b) = .agg [strR X .fresh, intR Y .fresh] ∧ X.length ≤ 1000 ∧ Y.length ≤ 1000 := by
    cases hd : decF b with
    | none => exact ⟨[], [], rfl, by simp, by simp⟩
    | some x =>
      obtain ⟨p, q⟩ := x
      have := decF_few hd
      exact ⟨p, q, rfl, this.1, this.2⟩
  obtain ⟨X, Y, eX, lX, lY⟩ := c8
  have c9 := c72 hL X Y lX lY []
  rw [eX] at c3 c4
  unfold mayFE at c5
  generalize encV ks ns = P at c1 c2 s1
  have hem : (encE ks ns = 0 ∨ encE ks ns = 5) ∧ mayF ks ns = true ∨ encE ks ns = 1 ∧ mayF ks ns = false := by
    unfold encE
    cases mayF ks ns with
    | false => exact .inr ⟨rfl, rfl⟩
    | true =>
      left
      refine ⟨?_, rfl⟩
      by_cases h : sizeF ks ≤ 504
      · left; simp [h]
      · right; simp [h]
  have hde : fkE (decF b) = 0 ∨ fkE (decF b) = 3 := by cases decF b <;> simp [fkE]
  rcases hem with ⟨he | he, hm⟩ | ⟨he, hm⟩ <;> rcases hde with hd | hd <;>
  · rw [he] at c1 c2 q1
    rw [hd] at c3 c4 q2
    rw [hm] at c5 c6
    simp only [errD_zero, errD_pos (by decide : (5 : Nat) ≠ 0), errD_pos (by decide : (1 : Nat) ≠ 0), errD_pos (by decide : (3 : Nat) ≠ 0), if_true, if_false, Bool.false_eq_true, nlit9] at c1 c2 c3 c4 c5 q1 q2
    simp only [fi12, Tryd.f12, an12, c0, b1, hb, c1, c2, c3, c4, c5, c6, c7, c9, q1, q2, s1, s2, bt, bf, nlit9, sD_leaf, sD_glob, iD_leaf, iD_glob, bytesOf_map, T3, T4, T5, T9, T33, T68, T137, T145, T147, T149, EL, e_finWf, e_finWt, e_finMN, e_finMX, retM, meltV, tupV, D.asBox, D.row1, D.freeR, D.freeO, List.replicate_succ, stepD, accs, accP, accW, simpleOp, isAl, isExt, flipD, D.fresh1, D.row, D.plain, D.plain.plainL, St.close, St.close1, St.borrow, retV, resV, resL, outCL, outC, outL, outD, wantedV, opV, An.mid, thawV, St.settle, D.plainU, prune, envOf, get, put, eval, evalT, nz, argsV, capsV, ofV, binV, binV.aggV, unV, intV, eqOp, isConst, natV, optV, loadV, loadC, storeV, setC, St.at_, partV, partTy, indexAddrV, fieldAddrV, sliceV, sliceV.rowSl, sliceV.strSl, bounds, cutP, builtinV, lenV, maxL, maxV, appendV, St.elems, roomy, rowOf, rowS, isStr, esz, tdOf, convV, buildV, fillV, partsV, okParts, fillL, D.whole, D.demoteC, D.demote, demoteL, D.global, D.flat, D.leaf, D.cells, TI.agg, TD.rowish, callOpV, moveL, CC, keepB, St.borrowL, St.borrow, D.isLsl, adoptR, adoptC, adoptCL, adoptL, adopt, List.toArray, Array.toList, Nat.reduceEqDiff, Nat.reduceAdd, Nat.reduceSub, Nat.reduceMul, Nat.reduceLeDiff, Nat.reduceLT, reduceIte, reduceCtorEq, forall_const, imp_self, Int.reduceNeg, Int.reduceLT, Int.reduceLE, Int.reduceGT, Int.reduceGE, Int.reduceAdd, Int.reduceSub, Int.reduceMul, Int.reduceToNat, Int.reduceEq, ne_eq, eq_self]
    done

end Go.Proofs.YtnhelkclkdfndaaDoor.V
