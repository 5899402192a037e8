/-
Layer 5: SheetBack.
-/
import Derived.Test.YtbbbhalmlboapaaDoorWH
namespace Go.Proofs.YtbbbhalmlboapaaDoor.V
open Go Go.RowKit
set_option linter.unusedSimpArgs false
set_option linter.unusedVariables false

/-! warren/warrenlaw05.SheetBack -/
def an12 : An := ⟨fun _ => .none, fun | 33 => 1 | _ => 0, fun _ => false, fun _ => .none⟩
noncomputable def fi12 : FI := ⟨3, 126, Tryd.f12.body.getD .skip, Tryd.f12.results.toList, an12, false, false, false⟩
theorem ok12 : FnOk Tryd.prog 12 fi12 := ⟨⟨Tryd.f12, Tryd.func12, by kernel_rfl, rfl, rfl, rfl⟩, by decide, by kernel_rfl, fun h => by cases h⟩

variable {C : Callees}

theorem u8_xor {x y : Nat} (hx : x < 256) (hy : y < 256) : bitsV .xor .u8 (x : Int) (y : Int) = ((x ^^^ y : Nat) : Int) := by
  have h3 : x ^^^ y < 256 := Nat.xor_lt_two_pow (n := 8) hx hy
  have h1 : (BitVec.ofNat 8 x ^^^ BitVec.ofNat 8 y).toNat = x ^^^ y := by
    rw [BitVec.toNat_xor, BitVec.toNat_ofNat, BitVec.toNat_ofNat, Nat.mod_eq_of_lt (by omega), Nat.mod_eq_of_lt (by omega)]
  show IntKind.u8.wrap (((BitVec.ofInt 8 (x : Int) ^^^ BitVec.ofInt 8 (y : Int)).toNat : Nat) : Int) = _
  rw [ofInt_nat, ofInt_nat, h1, wrap_u8 (by omega) (by omega)]

theorem shl_bit : ∀ {m : Nat}, m < 8 → shlV .u8 1 (m : Int) = ((2 ^ m : Nat) : Int)
  | 0, _ => by kernel_rfl
  | 1, _ => by kernel_rfl
  | 2, _ => by kernel_rfl
  | 3, _ => by kernel_rfl
  | 4, _ => by kernel_rfl
  | 5, _ => by kernel_rfl
  | 6, _ => by kernel_rfl
  | 7, _ => by kernel_rfl
  | m + 8, h => by omega

theorem setB_one (l : List UInt8) (i : Nat) (d : UInt8) (h : i < l.length) : setC (l.map byteD) i [.int .u8 d.toNat] = (l.set i d).map byteD := by
  have h1 : i < (l.map byteD).length := by rw [List.length_map]; exact h
  rw [List.set_eq_take_append_cons_drop, if_pos h]
  unfold setC
  simp [byteD]

/-- The kind that is taken. -/
def kd (k : UInt8) : UInt8 := 1 + k % 5
theorem kd_nat (k : UInt8) : (kd k).toNat = 1 + k.toNat % 5 := by
  unfold kd
  rw [UInt8.toNat_add, UInt8.toNat_mod]
  have : k.toNat % 5 < 5 := Nat.mod_lt _ (by decide)
  show (1 + k.toNat % 5) % 256 = _
  omega
theorem kd_ok (k : UInt8) : kindS (kd k).toNat = true := by
  rw [kd_nat]
  have : k.toNat % 5 < 5 := Nat.mod_lt _ (by decide)
  unfold kindS
  rw [decide_eq_true (by omega), decide_eq_true (by omega)]; rfl

set_option maxRecDepth 20000 in
set_option maxHeartbeats 8000000 in
theorem run12 (hC : Known05 C) (k : UInt8) (l : List UInt8) (bit : Int) : runV T C fi12 [.int .u8 k.toNat, byV l .none, .int .i64 bit] [] = some (.bool true, []) := by
  rw [e_run _ _ _ rfl]
  have hL := hC.toLib05
  have c5 := c53 hC
  by_cases h1 : (l.length : Int) > 504
  · simp only [fi12, Tryd.f12, an12, h1, c5, T3, T5, T9, T24, T33, T59, EL, e_finWf, e_finWt, e_finMN, e_finMX, retM, meltV, tupV, D.asBox, D.row1, D.freeR, D.freeO, List.replicate_succ, stepD, accs, accP, accW, simpleOp, isAl, isExt, flipD, D.fresh1, D.row, D.plain, D.plain.plainL, St.close, St.close1, St.borrow, retV, resV, resL, outCL, outC, outL, outD, wantedV, opV, An.mid, thawV, St.settle, D.plainU, prune, envOf, get, put, eval, evalT, nz, argsV, capsV, ofV, binV, binV.aggV, unV, intV, eqOp, isConst, natV, optV, loadV, loadC, storeV, setC, St.at_, partV, partTy, indexAddrV, fieldAddrV, sliceV, sliceV.rowSl, sliceV.strSl, bounds, cutP, builtinV, lenV, maxL, maxV, appendV, St.elems, roomy, rowOf, rowS, isStr, esz, tdOf, convV, buildV, fillV, partsV, okParts, fillL, D.whole, D.demoteC, D.demote, demoteL, D.global, D.flat, D.leaf, D.cells, TI.agg, TD.rowish, callOpV, moveL, CC, keepB, St.borrowL, St.borrow, D.isLsl, adoptR, adoptC, adoptCL, adoptL, adopt, List.toArray, Array.toList, Nat.reduceEqDiff, Nat.reduceAdd, Nat.reduceSub, Nat.reduceMul, Nat.reduceLeDiff, Nat.reduceLT, reduceIte, reduceCtorEq, forall_const, imp_self, Int.reduceNeg, Int.reduceLT, Int.reduceLE, Int.reduceGT, Int.reduceGE, Int.reduceAdd, Int.reduceSub, Int.reduceMul, Int.reduceToNat, Int.reduceEq, ne_eq, eq_self]
  have hl : l.length ≤ 504 := by omega
  have hk := kd_ok k
  have hkn := kd_nat k
  have hk5 : k.toNat % 5 < 5 := Nat.mod_lt _ (by decide)
  have t1 : (k.toNat : Int).tmod 5 = ((k.toNat % 5 : Nat) : Int) := by rw [Int.tmod_eq_emod_of_nonneg (by omega)]; omega
  have w0 : IntKind.u8.wrap ((k.toNat % 5 : Nat) : Int) = ((k.toNat % 5 : Nat) : Int) := wrap_u8 (by omega) (by omega)
  have w1 : IntKind.u8.wrap (1 + ((k.toNat % 5 : Nat) : Int)) = ((kd k).toNat : Int) := by rw [wrap_u8 (by omega) (by omega), hkn]; omega
  have hlen : (pag (kd k) l).length = 512 := pag_len hl
  have hl1 : ((pag (kd k) l).map byteD).length = 512 := by rw [List.length_map, hlen]
  have e1 : (pag (kd k) l).take 512 = pag (kd k) l := List.take_of_length_le (by omega)
  have ne1 : ((pag (kd k) l).map byteD).isEmpty = false := by
    cases hp : pag (kd k) l with
    | nil => rw [hp] at hlen; cases hlen
    | cons _ _ => rfl
  have c1 := se_ok hL (kd k) l hk hl
  have c2 := opL_pag hL hk hl []
  have c3 := c60 hL (pag (kd k) l) (by rw [hlen]; decide) []
  rw [pag_blank hk l] at c3
  have hx : ((pag (kd k) l).take 511).length = 511 := by rw [List.length_take, hlen]; rfl
  have c4 : C 56 [.vec 1 (((pag (kd k) l).take 511).map byteD) .none] [] = some (.tuple [.int .u8 0, .vec 1 [] .fresh, .iface 102 (.int .i64 3)], []) := opL_len hL _ (by rw [hx]; decide) []
  have c6 : C 56 [.vec 1 ((pag (kd k) l).map byteD ++ [.int .u8 0]) .none] [] = some (.tuple [.int .u8 0, .vec 1 [] .fresh, .iface 102 (.int .i64 3)], []) := by
    have := opL_len hL (pag (kd k) l ++ [0]) (by rw [List.length_append, hlen]; decide) []
    rw [List.map_append] at this
    exact this
  obtain ⟨N, hN, wN⟩ : ∃ N : Nat, N < 4096 ∧ (IntKind.u64.wrap bit).tmod 4096 = (N : Int) := by
    have h0 : 0 ≤ IntKind.u64.wrap bit := by rw [wrap_u64_mod]; omega
    refine ⟨((IntKind.u64.wrap bit).tmod 4096).toNat, ?_, ?_⟩
    · rw [Int.tmod_eq_emod_of_nonneg h0]; omega
    · rw [Int.tmod_eq_emod_of_nonneg h0]; omega
  have w2 : IntKind.u64.wrap (N : Int) = (N : Int) := wrap_u64 (by omega) (by omega)
  have w3 : IntKind.i64.wrap (N : Int) = (N : Int) := wrapI (by omega) (by omega)
  have t2 : (N : Int).tdiv 8 = ((N / 8 : Nat) : Int) := by rw [Int.tdiv_eq_ediv_of_nonneg (by omega)]; omega
  have t3 : (N : Int).tmod 8 = ((N % 8 : Nat) : Int) := by rw [Int.tmod_eq_emod_of_nonneg (by omega)]; omega
  have w4 : IntKind.i64.wrap ((N / 8 : Nat) : Int) = ((N / 8 : Nat) : Int) := wrapI (by omega) (by omega)
  have w5 : IntKind.i64.wrap ((N % 8 : Nat) : Int) = ((N % 8 : Nat) : Int) := wrapI (by omega) (by omega)
  have w6 : IntKind.u64.wrap ((N % 8 : Nat) : Int) = ((N % 8 : Nat) : Int) := wrap_u64 (by omega) (by omega)
  have hm : N % 8 < 8 := Nat.mod_lt _ (by decide)
  have hi : N / 8 < 512 := by omega
  have ng : ¬ ((N % 8 : Nat) : Int) < 0 := by omega
  have hi2 : N / 8 ≤ 511 := by omega
  have n1 := nat0 (N / 8)
  have n2 := nat0 (N % 8)
  have s1 := shl_bit hm
  have g1 := bO_get (l := pag (kd k) l) (i := N / 8) (by omega)
  have hget : (pag (kd k) l)[N / 8]? = some (bO (pag (kd k) l) (N / 8)) := by
    unfold bO
    rw [List.getD_eq_getElem?_getD, List.getElem?_eq_getElem (by omega)]; rfl
  generalize bO (pag (kd k) l) (N / 8) = x at g1 hget
  have hp2 : 2 ^ (N % 8) < 256 := Nat.pow_lt_pow_right (by decide) hm
  have s2 : bitsV .xor .u8 (x.toNat : Int) ((2 ^ (N % 8) : Nat) : Int) = ((tbit x (N % 8)).toNat : Int) := by rw [u8_xor x.toNat_lt hp2, tbit_nat hm]
  have hls : ((pag (kd k) l).set (N / 8) (tbit x (N % 8))).length = 512 := by rw [List.length_set, hlen]
  have hls1 : (((pag (kd k) l).set (N / 8) (tbit x (N % 8))).map byteD).length = 512 := by rw [List.length_map, hls]
  have e2 : ((pag (kd k) l).set (N / 8) (tbit x (N % 8))).take 512 = (pag (kd k) l).set (N / 8) (tbit x (N % 8)) := List.take_of_length_le (by omega)
  have s3 := setB_one (pag (kd k) l) (N / 8) (tbit x (N % 8)) (by omega)
  have c7 := opL_sum hL _ hls (isL_turned hl hget (tbit_ne hm x)) []
  generalize (pag (kd k) l).set (N / 8) (tbit x (N % 8)) = y at hls hls1 e2 s3 c7
  have n3 := num3 hC []
  have n4 := num4 hC []
  have sL := str_ne l
  have b1 : decide (((kd k).toNat : Int) = ((kd k).toNat : Int)) = true := decide_eq_true rfl
  simp only [fi12, Tryd.f12, an12, h512, h1, t1, w0, w1, hlen, hl1, e1, ne1, c1, c2, c3, c4, c5, c6, wN, w2, w3, t2, t3, w4, w5, w6, ng, hi, hi2, Nat.mul_one, n1, n2, s1, s2, g1, hls, hls1, e2, s3, c7, n3, n4, sL, b1, bytesOf_map, glob_bytes, leaf_bytes, plain_bytes, Int.toNat_natCast, T3, T5, T9, T24, T33, T59, EL, e_finWf, e_finWt, e_finMN, e_finMX, retM, meltV, tupV, D.asBox, D.row1, D.freeR, D.freeO, List.replicate_succ, stepD, accs, accP, accW, simpleOp, isAl, isExt, flipD, D.fresh1, D.row, D.plain, D.plain.plainL, St.close, St.close1, St.borrow, retV, resV, resL, outCL, outC, outL, outD, wantedV, opV, An.mid, thawV, St.settle, D.plainU, prune, envOf, get, put, eval, evalT, nz, argsV, capsV, ofV, binV, binV.aggV, unV, intV, eqOp, isConst, natV, optV, loadV, loadC, storeV, St.at_, partV, partTy, indexAddrV, fieldAddrV, sliceV, sliceV.rowSl, sliceV.strSl, bounds, cutP, builtinV, lenV, maxL, maxV, appendV, St.elems, roomy, rowOf, rowS, isStr, esz, tdOf, convV, buildV, fillV, partsV, okParts, fillL, D.whole, D.demoteC, D.demote, demoteL, D.global, D.flat, D.leaf, D.cells, TI.agg, TD.rowish, callOpV, moveL, CC, keepB, St.borrowL, St.borrow, D.isLsl, adoptR, adoptC, adoptCL, adoptL, adopt, List.toArray, Array.toList, Nat.reduceEqDiff, Nat.reduceAdd, Nat.reduceSub, Nat.reduceMul, Nat.reduceLeDiff, Nat.reduceLT, reduceIte, reduceCtorEq, forall_const, imp_self, Int.reduceNeg, Int.reduceLT, Int.reduceLE, Int.reduceGT, Int.reduceGE, Int.reduceAdd, Int.reduceSub, Int.reduceMul, Int.reduceToNat, Int.reduceEq, ne_eq, eq_self]
  done

end Go.Proofs.YtbbbhalmlboapaaDoor.V
