/-
Layer 2: CrcFinds.
-/
import Derived.Test.YtdmlojinmkcldaaDoorIF
namespace Go.Proofs.YtdmlojinmkcldaaDoor.V
open Go Go.RowKit
set_option linter.unusedSimpArgs false
set_option linter.unusedVariables false

/-! warren/warrenlaw02.CrcFinds -/
def an9 : An := ⟨fun | 12 => some [7, 9] | _ => .none, fun _ => false, fun _ => false, fun | 12 => some 7 | _ => .none⟩
noncomputable def fi9 : FI := ⟨3, 75, Tryd.f9.body.getD .skip, Tryd.f9.results.toList, an9⟩
theorem ok9 : FnOk Tryd.prog 9 fi9 := ⟨⟨Tryd.f9, Tryd.func9, by kernel_rfl, rfl, rfl, rfl⟩, by decide, by kernel_rfl⟩

theorem flip_seen (x : List UInt8) (a b c d : UInt8) (hs : be4 a.toNat b.toNat c.toNat d.toNat = moreS 0 x) (k : Nat) (e f : UInt8) (hk : (x ++ [a, b, c, d])[k]? = some e) (hne : f ≠ e) : isL ((x ++ [a, b, c, d]).set k f) = false := by
  have hlt := (List.getElem?_eq_some_iff.1 hk).1
  simp only [List.length_append, List.length_cons, List.length_nil] at hlt
  have ha := a.toNat_lt; have hb := b.toNat_lt; have hc := c.toNat_lt; have hd := d.toNat_lt; have hf := f.toNat_lt
  by_cases h : k < x.length
  · obtain ⟨p, q, rfl, rfl⟩ : ∃ p q, x = p ++ e :: q ∧ p.length = k := by
      refine ⟨x.take k, x.drop (k + 1), ?_, by simp; omega⟩
      have := List.take_append_drop k x
      rw [List.drop_eq_getElem_cons h] at this
      rw [List.getElem?_append_left h, List.getElem?_eq_getElem h] at hk
      injection hk with hk
      rw [hk] at this; exact this.symm
    have e2 : ((p ++ e :: q) ++ [a, b, c, d]).set p.length f = (p ++ f :: q) ++ [a, b, c, d] := by simp
    rw [e2, isL_four, hs]
    exact beq_eq_false_iff_ne.2 (fun h3 => hne (more_turned p q e f (s := 0) (by omega) h3).symm)
  · obtain ⟨i, rfl⟩ : ∃ i, k = x.length + i := ⟨k - x.length, by omega⟩
    have hne' : f.toNat ≠ e.toNat := fun h => hne (UInt8.toNat_inj.1 h)
    rcases i with _ | _ | _ | _ | i
    · simp at hk; subst hk
      have e2 : (x ++ [a, b, c, d]).set (x.length + 0) f = x ++ [f, b, c, d] := by simp
      rw [e2, isL_four, ← hs]
      exact beq_eq_false_iff_ne.2 (by unfold be4; omega)
    · simp at hk; subst hk
      have e2 : (x ++ [a, b, c, d]).set (x.length + 1) f = x ++ [a, f, c, d] := by simp
      rw [e2, isL_four, ← hs]
      exact beq_eq_false_iff_ne.2 (by unfold be4; omega)
    · simp at hk; subst hk
      have e2 : (x ++ [a, b, c, d]).set (x.length + 2) f = x ++ [a, b, f, d] := by simp
      rw [e2, isL_four, ← hs]
      exact beq_eq_false_iff_ne.2 (by unfold be4; omega)
    · simp at hk; subst hk
      have e2 : (x ++ [a, b, c, d]).set (x.length + 3) f = x ++ [a, b, c, f] := by simp
      rw [e2, isL_four, ← hs]
      exact beq_eq_false_iff_ne.2 (by unfold be4; omega)
    · omega

theorem u8_nat {n : Nat} (h : n < 256) : (UInt8.ofNat n).toNat = n := by simp; omega

theorem turn_ne (c : UInt8) (r : Nat) (hr : r < 8) : c ^^^ UInt8.ofNat (2 ^ r) ≠ c := by
  have : ∀ (i : Fin 256) (r : Fin 8), i.val ^^^ 2 ^ r.val ≠ i.val := of_decide_eq_true (by kernel_rfl)
  intro h
  have h2 := congrArg UInt8.toNat h
  rw [UInt8.toNat_xor] at h2
  have h3 : 2 ^ r < 256 := by
    have : 2 ^ r ≤ 2 ^ 7 := Nat.pow_le_pow_right (by decide) (by omega)
    omega
  rw [u8_nat h3] at h2
  exact this ⟨c.toNat, c.toNat_lt⟩ ⟨r, hr⟩ h2

theorem setC_one (xs : List UInt8) (k : Nat) (hk : k < xs.length) (c : UInt8) : setC (xs.map byteD) k [.int .u8 c.toNat] = (xs.set k c).map byteD := by
  unfold setC
  simp only [List.length_cons, List.length_nil, Nat.zero_add]
  rw [← List.map_take, ← List.map_drop, List.set_eq_take_append_cons_drop, if_pos hk]
  simp [byteD]

theorem app_nil {ys : List UInt8} (hy : ys ≠ []) (hl : ys.length ≤ 1000000) (ρ : Env) (M) (τ : List Bool) (B : Hp) :
    appendV 1 1 ⟨ρ, M, τ, B⟩ .nilsl (ys.map byteD) = some (.vec 1 (ys.map byteD) (.own τ.length), ⟨ρ, M, τ ++ [true], B⟩) := by
  cases ys with
  | nil => exact absurd rfl hy
  | cons y r =>
    have hr : roomy (r.length + 1) 1 = true := by
      simp only [roomy, nble, decide_eq_true_eq]; simp at hl; omega
    simp [appendV, hr]

set_option maxRecDepth 10000 in
set_option maxHeartbeats 8000000 in
theorem run9 (C : Callees) (hk : Known02 C) (his : IsOk C) (hs : C 37 [] [] = some (.bool true, [])) (d1 d2 : D) (a b : List UInt8) (hd1 : ArD d1 a) (hd2 : ArD d2 b) (n : Int) (hn0 : -9223372036854775808 ≤ n) (hn1 : n < 9223372036854775808)
    (hla : a.length ≤ 140737488355328) (hlb : b.length ≤ 140737488355328) :
    runV T C fi9 [d1, d2, .int .i64 n] [] = some (.bool true, []) := by
  rw [e_run _ _ _ rfl]
  have hw : IntKind.i64.wrap ((a.length : Int) + (b.length : Int)) = ((a.length + b.length : Nat) : Int) := by rw [wrapI (by omega) (by omega)]; omega
  by_cases hl : a.length + b.length ≤ 600
  · have hgt : ¬ ((a.length + b.length : Nat) : Int) > 600 := by omega
    have hsl := more_lt 0 (a ++ b)
    have h1 : ∀ p, C 38 [.vec 1 ((a ++ b).map byteD) p] [] = some (.int .u32 (moreS 0 (a ++ b) : Nat), []) := fun p => hk.sum _ _ [] (.inr ⟨p, rfl⟩) (by simp; omega)
    have h2 : C 38 [d1] [] = some (.int .u32 (moreS 0 a : Nat), []) := hk.sum _ _ [] hd1.by (by omega)
    have h3 : C 42 [.int .u32 (moreS 0 a : Nat), d2] [] = some (.int .u32 (moreS 0 (a ++ b) : Nat), []) := by
      rw [more_append (by omega) a b]
      exact hk.more _ _ _ [] (more_lt 0 a) hd2.by (by omega)
    have hflip : ∀ (k : Nat) (e f : UInt8) (c0 c1 c2 c3 : UInt8), be4 c0.toNat c1.toNat c2.toNat c3.toNat = moreS 0 (a ++ b) → ((a ++ b) ++ [c0, c1, c2, c3])[k]? = some e → f ≠ e → isL (((a ++ b) ++ [c0, c1, c2, c3]).set k f) = false := fun k e f c0 c1 c2 c3 => fun q1 q2 q3 => flip_seen (a ++ b) c0 c1 c2 c3 q1 k e f q2 q3
    have hnilS : a ++ b = [] → C 38 [.nilsl] [] = some (.int .u32 (moreS 0 (a ++ b) : Nat), []) := fun h => by rw [h]; exact hk.sum _ _ [] (.inl ⟨rfl, rfl⟩) (by simp)
    have hsas : b = [] → moreS 0 a = moreS 0 (a ++ b) := fun h => by rw [h, List.append_nil]
    generalize moreS 0 a = sa at h2 h3 hsas
    generalize hss : moreS 0 (a ++ b) = s at h1 h3 hflip hsl hnilS hsas
    obtain ⟨c0, hc0⟩ : ∃ c : UInt8, c.toNat = s / 16777216 := ⟨UInt8.ofNat (s / 16777216), u8_nat (by omega)⟩
    obtain ⟨c1, hc1⟩ : ∃ c : UInt8, c.toNat = s / 65536 % 256 := ⟨UInt8.ofNat (s / 65536 % 256), u8_nat (by omega)⟩
    obtain ⟨c2, hc2⟩ : ∃ c : UInt8, c.toNat = s / 256 % 256 := ⟨UInt8.ofNat (s / 256 % 256), u8_nat (by omega)⟩
    obtain ⟨c3, hc3⟩ : ∃ c : UInt8, c.toNat = s % 256 := ⟨UInt8.ofNat (s % 256), u8_nat (by omega)⟩
    have u0 : IntKind.u8.wrap (shrV .u32 (s : Int) 24) = (c0.toNat : Int) := by
      have : shrV .u32 (s : Int) 24 = ((s / 16777216 : Nat) : Int) := shr_nat .u32 s 24 (by decide)
      rw [this, wrap_u8_mod]; omega
    have u1 : IntKind.u8.wrap (shrV .u32 (s : Int) 16) = (c1.toNat : Int) := by
      have : shrV .u32 (s : Int) 16 = ((s / 65536 : Nat) : Int) := shr_nat .u32 s 16 (by decide)
      rw [this, wrap_u8_mod]; omega
    have u2 : IntKind.u8.wrap (shrV .u32 (s : Int) 8) = (c2.toNat : Int) := by
      have : shrV .u32 (s : Int) 8 = ((s / 256 : Nat) : Int) := shr_nat .u32 s 8 (by decide)
      rw [this, wrap_u8_mod]; omega
    have u3 : IntKind.u8.wrap (s : Int) = (c3.toNat : Int) := by
      rw [wrap_u8_mod]; omega
    have hbe : be4 c0.toNat c1.toNat c2.toNat c3.toNat = s := by
      rw [hc0, hc1, hc2, hc3]; unfold be4; omega
    have hXl : ((a ++ b) ++ [c0, c1, c2, c3]).length = a.length + b.length + 4 := by simp [Nat.add_assoc]
    have hIs : ∀ p, C 43 [.vec 1 (((a ++ b) ++ [c0, c1, c2, c3]).map byteD) p] [] = some (.bool true, []) := fun p => by
      rw [his _ _ [] (.inr ⟨p, rfl⟩) (by rw [hXl]; omega), isL_four, hbe, hss]; simp
    have hflip2 := fun k e f => hflip k e f c0 c1 c2 c3 hbe
    have fx : ∀ (i : Nat) (τ : List Bool), τ[i]? = some true → ∀ ρ M B, appendV 1 1 ⟨ρ, M, τ, B⟩ (.vec 1 ((a ++ b).map byteD) (.own i)) [.int .u8 c0.toNat, .int .u8 c1.toNat, .int .u8 c2.toNat, .int .u8 c3.toNat] = some (.vec 1 (((a ++ b) ++ [c0, c1, c2, c3]).map byteD) (.own τ.length), ⟨ρ, M, τ.set i false ++ [true], B⟩) := fun i τ hi ρ M B =>
      app_own (xs := a ++ b) (ys := [c0, c1, c2, c3]) hi (by simp; omega) ρ M B
    have fn : a ++ b = [] → ∀ ρ M B, appendV 1 1 ⟨ρ, M, [], B⟩ .nilsl [.int .u8 c0.toNat, .int .u8 c1.toNat, .int .u8 c2.toNat, .int .u8 c3.toNat] = some (.vec 1 (((a ++ b) ++ [c0, c1, c2, c3]).map byteD) (.own 0), ⟨ρ, M, [true], B⟩) := fun h ρ M B => by
      rw [h]; exact app_nil (ys := [c0, c1, c2, c3]) (by simp) (by simp) ρ M [] B
    have f1 : a ≠ [] → ∀ ρ M B, appendV 1 1 ⟨ρ, M, [], B⟩ .nilsl (a.map byteD) = some (.vec 1 (a.map byteD) (.own 0), ⟨ρ, M, [true], B⟩) := fun h ρ M B => app_nil h (by omega) ρ M [] B
    have f2 : ∀ ρ M B, appendV 1 1 ⟨ρ, M, [true], B⟩ (.vec 1 (a.map byteD) (.own 0)) (b.map byteD) = some (.vec 1 ((a ++ b).map byteD) (.own 1), ⟨ρ, M, [false, true], B⟩) := fun ρ M B => app_own (τ := [true]) rfl (by omega) ρ M B
    have f3 : a = [] → b ≠ [] → ∀ ρ M B, appendV 1 1 ⟨ρ, M, [], B⟩ .nilsl (b.map byteD) = some (.vec 1 ((a ++ b).map byteD) (.own 0), ⟨ρ, M, [true], B⟩) := fun ha h ρ M B => by
      rw [ha]; exact app_nil h (by omega) ρ M [] B
    have f0 : ∀ ρ M B, appendV 1 1 ⟨ρ, M, [], B⟩ .nilsl [] = some (.nilsl, ⟨ρ, M, [], B⟩) := fun _ _ _ => rfl
    have fx0 : ∀ ρ M B, appendV 1 1 ⟨ρ, M, [true], B⟩ (.vec 1 ((a ++ b).map byteD) (.own 0)) [.int .u8 c0.toNat, .int .u8 c1.toNat, .int .u8 c2.toNat, .int .u8 c3.toNat] = some (.vec 1 (((a ++ b) ++ [c0, c1, c2, c3]).map byteD) (.own 1), ⟨ρ, M, [false, true], B⟩) := fx 0 [true] rfl
    have fx1 : ∀ ρ M B, appendV 1 1 ⟨ρ, M, [false, true], B⟩ (.vec 1 ((a ++ b).map byteD) (.own 1)) [.int .u8 c0.toNat, .int .u8 c1.toNat, .int .u8 c2.toNat, .int .u8 c3.toNat] = some (.vec 1 (((a ++ b) ++ [c0, c1, c2, c3]).map byteD) (.own 2), ⟨ρ, M, [false, false, true], B⟩) := fx 1 [false, true] rfl
    generalize hX : (a ++ b) ++ [c0, c1, c2, c3] = X at hXl hIs hflip2 fx0 fx1 fn
    -- the bit
    obtain ⟨m, hm⟩ : ∃ m : Nat, IntKind.u64.wrap n = (m : Int) ∧ m < 18446744073709551616 := ⟨(n % 18446744073709551616).toNat, by rw [wrap_u64_mod]; omega, by omega⟩
    obtain ⟨hm, hm2⟩ := hm
    have hN : 0 < 8 * X.length := by omega
    have v1 : IntKind.i64.wrap (8 * (X.length : Int)) = ((8 * X.length : Nat) : Int) := by rw [wrapI (by omega) (by omega)]; omega
    have v2 : IntKind.u64.wrap ((8 * X.length : Nat) : Int) = ((8 * X.length : Nat) : Int) := wrap_u64 (by omega) (by omega)
    have v3 : (m : Int).tmod ((8 * X.length : Nat) : Int) = ((m % (8 * X.length) : Nat) : Int) := by
      rw [Int.tmod_eq_emod_of_nonneg (by omega)]; rfl
    have hj := Nat.mod_lt m hN
    have v0 : ¬ ((8 * X.length : Nat) : Int) = 0 := by omega
    generalize m % (8 * X.length) = j at v3 hj
    have v4 : IntKind.i64.wrap (j : Int) = j := wrapI (by omega) (by omega)
    have v5 : IntKind.i64.wrap ((j : Int).tdiv 8) = ((j / 8 : Nat) : Int) := by rw [Int.tdiv_eq_ediv_of_nonneg (by omega), wrapI (by omega) (by omega)]; omega
    have v6 : (j : Int).tmod 8 = ((j % 8 : Nat) : Int) := by rw [Int.tmod_eq_emod_of_nonneg (by omega)]; omega
    have v7 : IntKind.u64.wrap ((j % 8 : Nat) : Int) = ((j % 8 : Nat) : Int) := wrap_u64 (by omega) (by omega)
    have hr8 : j % 8 < 8 := by omega
    have hp2 : 2 ^ (j % 8) < 256 := by
      have : 2 ^ (j % 8) ≤ 2 ^ 7 := Nat.pow_le_pow_right (by decide) (by omega)
      omega
    have v8 : shlV .u8 1 ((j % 8 : Nat) : Int) = ((UInt8.ofNat (2 ^ (j % 8))).toNat : Int) := by
      rw [u8_nat hp2]
      have h1 : min ((j % 8 : Nat) : Int).toNat IntKind.u8.bits = j % 8 := by show min _ 8 = _; omega
      rw [shlV, h1, Int.one_mul]
      have h2 : (2 : Int) ^ (j % 8) = ((2 ^ (j % 8) : Nat) : Int) := by rw [Int.natCast_pow]; rfl
      rw [h2, wrap_u8 (Int.natCast_nonneg _) (Int.ofNat_lt.2 hp2)]
    have hkl : j / 8 < X.length := by omega
    have hxk := List.getElem?_eq_getElem hkl
    generalize X[j / 8] = e at hxk
    have v9 := xor_u8 e (UInt8.ofNat (2 ^ (j % 8)))
    have hseen := hflip2 (j / 8) e (e ^^^ UInt8.ofNat (2 ^ (j % 8))) hxk (turn_ne e _ hr8)
    have hset := setC_one X (j / 8) hkl (e ^^^ UInt8.ofNat (2 ^ (j % 8)))
    have hZl : (X.set (j / 8) (e ^^^ UInt8.ofNat (2 ^ (j % 8)))).length = X.length := by simp
    generalize X.set (j / 8) (e ^^^ UInt8.ofNat (2 ^ (j % 8))) = Z at hseen hset hZl
    have hZ : ∀ p, C 43 [.vec 1 (Z.map byteD) p] [] = some (.bool false, []) := fun p => by
      rw [his _ _ [] (.inr ⟨p, rfl⟩) (by rw [hZl, hXl]; omega), hseen]
    have hZt : Z.take X.length = Z := List.take_of_length_le (by omega)
    have v10 : ¬ ((j % 8 : Nat) : Int) < 0 := by omega
    have v11 : (0 : Int) ≤ ((j / 8 : Nat) : Int) := by omega
    have v12 : j / 8 + 1 ≤ X.length := by omega
    generalize j % 8 = r at v6 v7 v8 v9 v10 hset
    generalize j / 8 = q at v5 hxk hset v11 v12 hkl
    generalize UInt8.ofNat (2 ^ r) = t at v8 v9 hset
    generalize e ^^^ t = e2 at v9 hset
    clear hflip hflip2 hm2 hp2
    clear fx
    have he1 : ∀ (d : D) (l : List UInt8), ArD d l → (d = .nilsl ∧ l = []) ∨ (d = .vec 1 [] .none ∧ l = []) ∨ (d = .vec 1 (l.map byteD) .none ∧ l ≠ []) := fun d l h => by
      rcases h with h | rfl
      · exact .inl h
      · by_cases hl : l = []
        · subst hl; exact .inr (.inl ⟨rfl, rfl⟩)
        · exact .inr (.inr ⟨rfl, hl⟩)
    rcases he1 d1 a hd1 with ⟨rfl, rfl⟩ | ⟨rfl, rfl⟩ | ⟨rfl, hane⟩
    · rcases he1 d2 b hd2 with ⟨rfl, rfl⟩ | ⟨rfl, rfl⟩ | ⟨rfl, hbne⟩
      · have fn := fn rfl
        have hS := hnilS rfl
        obtain rfl := hsas rfl
        try simp only [List.length_nil, Nat.zero_add, Nat.add_zero, List.map_nil, List.append_nil, List.nil_append] at hw hgt h1 hS
        simp only [fi9, Tryd.f9, an9, hw, hgt, hs, h1, h2, h3, u0, u1, u2, u3, hIs, hm, v0, v1, v2, v3, v4, v5, v6, v7, v8, v9, v10, v11, v12, hkl, hxk, hset, hZ, hZl, hZt, Nat.mul_one, Int.toNat_natCast, List.getElem?_map, Option.map_some, byteD, bytes_plain, bytes_leaf, bytes_global, List.all_nil, Nat.le_refl, List.map_nil, List.append_nil, List.nil_append, dp, f0, fn, hS, T3, T4, T5, T34, T57, T63, e_seq, e_region, e_dyn, e_dynS, stepD, accs, accP, accW, simpleOp, isAl, isExt, flipD, D.fresh1, D.row, D.plain, D.plain.plainL, St.close, St.close1, St.borrow, thawV, D.plainU, List.flatten_cons, List.flatten_nil, e_block, e_cond, e_ret, e_skip, e_exit, e_plain, e_guard, e_nil, e_op, e_ifT, e_ifF, e_true, e_false, e_loop, e_l, e_top, e_seqN, e_seqE, e_seqR, e_blockN, e_blockR, e_blockE,
    e_finN, e_finX, e_finR, retV, resV, resL, outCL, outC, outL, outD, wantedV, opV, An.at_, prune, List.map_cons, List.map_nil, envOf, get, put, eval, ofV, nbeq, nble, binV, binV.aggV, unV, intV, eqOp, isConst, natV, optV, loadV, loadC, storeV, St.at_, partV, indexAddrV, fieldAddrV, sliceV, sliceV.rowSl, sliceV.strSl, bounds, cutP,
    builtinV, lenV, maxL, maxV, St.elems, roomy, rowOf, rowS, isStr, esz, tdOf, convV, buildV, fillV, partsV, okParts, fillL, D.whole, D.demoteC, D.demote, demoteL, D.global, D.leaf, D.cells, TI.agg, TD.rowish, callOpV, CC, keepB, St.borrowL, St.borrow, D.isLsl, adoptR, adoptC, adoptCL, adoptL, adopt, upd,
    List.toArray, Array.toList, List.length_cons, List.length_nil, List.length_map, List.length_append, List.length_replicate, List.replicate_succ, List.replicate_zero, List.replicate_one, ← List.map_take, ← List.map_drop, List.drop_zero, List.take_succ_cons, List.take_zero, List.take_nil, List.drop_succ_cons, List.drop_nil, Nat.zero_le, Nat.le_refl, Nat.sub_zero, List.getElem?_cons_succ, List.getElem?_cons_zero, List.getElem?_nil, List.any_cons, List.any_nil, List.all_cons, List.all_nil, List.append_nil, List.nil_append, List.cons_append, List.set_cons_zero, List.set_cons_succ,
    cond_true, cond_false, decide_true, decide_false, Bool.true_and, Bool.and_true, Bool.false_and, Bool.and_false, Bool.true_or, Bool.or_true, Bool.false_or, Bool.or_false, Bool.not_true, Bool.not_false, Bool.and_self, Bool.or_self, bT, bF, ieq, ine, decide_eq_true_eq, decide_not,
    Nat.reduceEqDiff, Nat.reduceAdd, Nat.reduceSub, Nat.reduceMul, Nat.reduceLeDiff, Nat.reduceLT, Nat.zero_add, Nat.add_zero, Option.getD_some, Option.getD_none, Option.isSome_some, Option.isSome_none, reduceIte, reduceCtorEq, and_self, and_true, true_and, not_true_eq_false, not_false_eq_true, false_imp_iff, forall_const, imp_self,
    Int.reduceNeg, Int.reduceLT, Int.reduceLE, Int.reduceGT, Int.reduceGE, Int.reduceAdd, Int.reduceSub, Int.reduceMul, Int.reduceToNat, Int.reduceEq, ne_eq, eq_self, beq_self_eq_true]
      · have fn := fn rfl
        have hS := hnilS rfl
        obtain rfl := hsas rfl
        try simp only [List.length_nil, Nat.zero_add, Nat.add_zero, List.map_nil, List.append_nil, List.nil_append] at hw hgt h1 hS
        simp only [fi9, Tryd.f9, an9, hw, hgt, hs, h1, h2, h3, u0, u1, u2, u3, hIs, hm, v0, v1, v2, v3, v4, v5, v6, v7, v8, v9, v10, v11, v12, hkl, hxk, hset, hZ, hZl, hZt, Nat.mul_one, Int.toNat_natCast, List.getElem?_map, Option.map_some, byteD, bytes_plain, bytes_leaf, bytes_global, List.all_nil, Nat.le_refl, List.map_nil, List.append_nil, List.nil_append, dp, f0, fn, hS, T3, T4, T5, T34, T57, T63, e_seq, e_region, e_dyn, e_dynS, stepD, accs, accP, accW, simpleOp, isAl, isExt, flipD, D.fresh1, D.row, D.plain, D.plain.plainL, St.close, St.close1, St.borrow, thawV, D.plainU, List.flatten_cons, List.flatten_nil, e_block, e_cond, e_ret, e_skip, e_exit, e_plain, e_guard, e_nil, e_op, e_ifT, e_ifF, e_true, e_false, e_loop, e_l, e_top, e_seqN, e_seqE, e_seqR, e_blockN, e_blockR, e_blockE,
    e_finN, e_finX, e_finR, retV, resV, resL, outCL, outC, outL, outD, wantedV, opV, An.at_, prune, List.map_cons, List.map_nil, envOf, get, put, eval, ofV, nbeq, nble, binV, binV.aggV, unV, intV, eqOp, isConst, natV, optV, loadV, loadC, storeV, St.at_, partV, indexAddrV, fieldAddrV, sliceV, sliceV.rowSl, sliceV.strSl, bounds, cutP,
    builtinV, lenV, maxL, maxV, St.elems, roomy, rowOf, rowS, isStr, esz, tdOf, convV, buildV, fillV, partsV, okParts, fillL, D.whole, D.demoteC, D.demote, demoteL, D.global, D.leaf, D.cells, TI.agg, TD.rowish, callOpV, CC, keepB, St.borrowL, St.borrow, D.isLsl, adoptR, adoptC, adoptCL, adoptL, adopt, upd,
    List.toArray, Array.toList, List.length_cons, List.length_nil, List.length_map, List.length_append, List.length_replicate, List.replicate_succ, List.replicate_zero, List.replicate_one, ← List.map_take, ← List.map_drop, List.drop_zero, List.take_succ_cons, List.take_zero, List.take_nil, List.drop_succ_cons, List.drop_nil, Nat.zero_le, Nat.le_refl, Nat.sub_zero, List.getElem?_cons_succ, List.getElem?_cons_zero, List.getElem?_nil, List.any_cons, List.any_nil, List.all_cons, List.all_nil, List.append_nil, List.nil_append, List.cons_append, List.set_cons_zero, List.set_cons_succ,
    cond_true, cond_false, decide_true, decide_false, Bool.true_and, Bool.and_true, Bool.false_and, Bool.and_false, Bool.true_or, Bool.or_true, Bool.false_or, Bool.or_false, Bool.not_true, Bool.not_false, Bool.and_self, Bool.or_self, bT, bF, ieq, ine, decide_eq_true_eq, decide_not,
    Nat.reduceEqDiff, Nat.reduceAdd, Nat.reduceSub, Nat.reduceMul, Nat.reduceLeDiff, Nat.reduceLT, Nat.zero_add, Nat.add_zero, Option.getD_some, Option.getD_none, Option.isSome_some, Option.isSome_none, reduceIte, reduceCtorEq, and_self, and_true, true_and, not_true_eq_false, not_false_eq_true, false_imp_iff, forall_const, imp_self,
    Int.reduceNeg, Int.reduceLT, Int.reduceLE, Int.reduceGT, Int.reduceGE, Int.reduceAdd, Int.reduceSub, Int.reduceMul, Int.reduceToNat, Int.reduceEq, ne_eq, eq_self, beq_self_eq_true]
      · have f3 := f3 rfl hbne
        try simp only [List.length_nil, Nat.zero_add, Nat.add_zero, List.map_nil, List.append_nil, List.nil_append] at hw hgt h1 f3 fx0
        simp only [fi9, Tryd.f9, an9, hw, hgt, hs, h1, h2, h3, u0, u1, u2, u3, hIs, hm, v0, v1, v2, v3, v4, v5, v6, v7, v8, v9, v10, v11, v12, hkl, hxk, hset, hZ, hZl, hZt, Nat.mul_one, Int.toNat_natCast, List.getElem?_map, Option.map_some, byteD, bytes_plain, bytes_leaf, bytes_global, List.all_nil, Nat.le_refl, List.map_nil, List.append_nil, List.nil_append, dp, f0, f3, fx0, T3, T4, T5, T34, T57, T63, e_seq, e_region, e_dyn, e_dynS, stepD, accs, accP, accW, simpleOp, isAl, isExt, flipD, D.fresh1, D.row, D.plain, D.plain.plainL, St.close, St.close1, St.borrow, thawV, D.plainU, List.flatten_cons, List.flatten_nil, e_block, e_cond, e_ret, e_skip, e_exit, e_plain, e_guard, e_nil, e_op, e_ifT, e_ifF, e_true, e_false, e_loop, e_l, e_top, e_seqN, e_seqE, e_seqR, e_blockN, e_blockR, e_blockE,
    e_finN, e_finX, e_finR, retV, resV, resL, outCL, outC, outL, outD, wantedV, opV, An.at_, prune, List.map_cons, List.map_nil, envOf, get, put, eval, ofV, nbeq, nble, binV, binV.aggV, unV, intV, eqOp, isConst, natV, optV, loadV, loadC, storeV, St.at_, partV, indexAddrV, fieldAddrV, sliceV, sliceV.rowSl, sliceV.strSl, bounds, cutP,
    builtinV, lenV, maxL, maxV, St.elems, roomy, rowOf, rowS, isStr, esz, tdOf, convV, buildV, fillV, partsV, okParts, fillL, D.whole, D.demoteC, D.demote, demoteL, D.global, D.leaf, D.cells, TI.agg, TD.rowish, callOpV, CC, keepB, St.borrowL, St.borrow, D.isLsl, adoptR, adoptC, adoptCL, adoptL, adopt, upd,
    List.toArray, Array.toList, List.length_cons, List.length_nil, List.length_map, List.length_append, List.length_replicate, List.replicate_succ, List.replicate_zero, List.replicate_one, ← List.map_take, ← List.map_drop, List.drop_zero, List.take_succ_cons, List.take_zero, List.take_nil, List.drop_succ_cons, List.drop_nil, Nat.zero_le, Nat.le_refl, Nat.sub_zero, List.getElem?_cons_succ, List.getElem?_cons_zero, List.getElem?_nil, List.any_cons, List.any_nil, List.all_cons, List.all_nil, List.append_nil, List.nil_append, List.cons_append, List.set_cons_zero, List.set_cons_succ,
    cond_true, cond_false, decide_true, decide_false, Bool.true_and, Bool.and_true, Bool.false_and, Bool.and_false, Bool.true_or, Bool.or_true, Bool.false_or, Bool.or_false, Bool.not_true, Bool.not_false, Bool.and_self, Bool.or_self, bT, bF, ieq, ine, decide_eq_true_eq, decide_not,
    Nat.reduceEqDiff, Nat.reduceAdd, Nat.reduceSub, Nat.reduceMul, Nat.reduceLeDiff, Nat.reduceLT, Nat.zero_add, Nat.add_zero, Option.getD_some, Option.getD_none, Option.isSome_some, Option.isSome_none, reduceIte, reduceCtorEq, and_self, and_true, true_and, not_true_eq_false, not_false_eq_true, false_imp_iff, forall_const, imp_self,
    Int.reduceNeg, Int.reduceLT, Int.reduceLE, Int.reduceGT, Int.reduceGE, Int.reduceAdd, Int.reduceSub, Int.reduceMul, Int.reduceToNat, Int.reduceEq, ne_eq, eq_self, beq_self_eq_true]
    · rcases he1 d2 b hd2 with ⟨rfl, rfl⟩ | ⟨rfl, rfl⟩ | ⟨rfl, hbne⟩
      · have fn := fn rfl
        have hS := hnilS rfl
        obtain rfl := hsas rfl
        try simp only [List.length_nil, Nat.zero_add, Nat.add_zero, List.map_nil, List.append_nil, List.nil_append] at hw hgt h1 hS
        simp only [fi9, Tryd.f9, an9, hw, hgt, hs, h1, h2, h3, u0, u1, u2, u3, hIs, hm, v0, v1, v2, v3, v4, v5, v6, v7, v8, v9, v10, v11, v12, hkl, hxk, hset, hZ, hZl, hZt, Nat.mul_one, Int.toNat_natCast, List.getElem?_map, Option.map_some, byteD, bytes_plain, bytes_leaf, bytes_global, List.all_nil, Nat.le_refl, List.map_nil, List.append_nil, List.nil_append, dp, f0, fn, hS, T3, T4, T5, T34, T57, T63, e_seq, e_region, e_dyn, e_dynS, stepD, accs, accP, accW, simpleOp, isAl, isExt, flipD, D.fresh1, D.row, D.plain, D.plain.plainL, St.close, St.close1, St.borrow, thawV, D.plainU, List.flatten_cons, List.flatten_nil, e_block, e_cond, e_ret, e_skip, e_exit, e_plain, e_guard, e_nil, e_op, e_ifT, e_ifF, e_true, e_false, e_loop, e_l, e_top, e_seqN, e_seqE, e_seqR, e_blockN, e_blockR, e_blockE,
    e_finN, e_finX, e_finR, retV, resV, resL, outCL, outC, outL, outD, wantedV, opV, An.at_, prune, List.map_cons, List.map_nil, envOf, get, put, eval, ofV, nbeq, nble, binV, binV.aggV, unV, intV, eqOp, isConst, natV, optV, loadV, loadC, storeV, St.at_, partV, indexAddrV, fieldAddrV, sliceV, sliceV.rowSl, sliceV.strSl, bounds, cutP,
    builtinV, lenV, maxL, maxV, St.elems, roomy, rowOf, rowS, isStr, esz, tdOf, convV, buildV, fillV, partsV, okParts, fillL, D.whole, D.demoteC, D.demote, demoteL, D.global, D.leaf, D.cells, TI.agg, TD.rowish, callOpV, CC, keepB, St.borrowL, St.borrow, D.isLsl, adoptR, adoptC, adoptCL, adoptL, adopt, upd,
    List.toArray, Array.toList, List.length_cons, List.length_nil, List.length_map, List.length_append, List.length_replicate, List.replicate_succ, List.replicate_zero, List.replicate_one, ← List.map_take, ← List.map_drop, List.drop_zero, List.take_succ_cons, List.take_zero, List.take_nil, List.drop_succ_cons, List.drop_nil, Nat.zero_le, Nat.le_refl, Nat.sub_zero, List.getElem?_cons_succ, List.getElem?_cons_zero, List.getElem?_nil, List.any_cons, List.any_nil, List.all_cons, List.all_nil, List.append_nil, List.nil_append, List.cons_append, List.set_cons_zero, List.set_cons_succ,
    cond_true, cond_false, decide_true, decide_false, Bool.true_and, Bool.and_true, Bool.false_and, Bool.and_false, Bool.true_or, Bool.or_true, Bool.false_or, Bool.or_false, Bool.not_true, Bool.not_false, Bool.and_self, Bool.or_self, bT, bF, ieq, ine, decide_eq_true_eq, decide_not,
    Nat.reduceEqDiff, Nat.reduceAdd, Nat.reduceSub, Nat.reduceMul, Nat.reduceLeDiff, Nat.reduceLT, Nat.zero_add, Nat.add_zero, Option.getD_some, Option.getD_none, Option.isSome_some, Option.isSome_none, reduceIte, reduceCtorEq, and_self, and_true, true_and, not_true_eq_false, not_false_eq_true, false_imp_iff, forall_const, imp_self,
    Int.reduceNeg, Int.reduceLT, Int.reduceLE, Int.reduceGT, Int.reduceGE, Int.reduceAdd, Int.reduceSub, Int.reduceMul, Int.reduceToNat, Int.reduceEq, ne_eq, eq_self, beq_self_eq_true]
      · have fn := fn rfl
        have hS := hnilS rfl
        obtain rfl := hsas rfl
        try simp only [List.length_nil, Nat.zero_add, Nat.add_zero, List.map_nil, List.append_nil, List.nil_append] at hw hgt h1 hS
        simp only [fi9, Tryd.f9, an9, hw, hgt, hs, h1, h2, h3, u0, u1, u2, u3, hIs, hm, v0, v1, v2, v3, v4, v5, v6, v7, v8, v9, v10, v11, v12, hkl, hxk, hset, hZ, hZl, hZt, Nat.mul_one, Int.toNat_natCast, List.getElem?_map, Option.map_some, byteD, bytes_plain, bytes_leaf, bytes_global, List.all_nil, Nat.le_refl, List.map_nil, List.append_nil, List.nil_append, dp, f0, fn, hS, T3, T4, T5, T34, T57, T63, e_seq, e_region, e_dyn, e_dynS, stepD, accs, accP, accW, simpleOp, isAl, isExt, flipD, D.fresh1, D.row, D.plain, D.plain.plainL, St.close, St.close1, St.borrow, thawV, D.plainU, List.flatten_cons, List.flatten_nil, e_block, e_cond, e_ret, e_skip, e_exit, e_plain, e_guard, e_nil, e_op, e_ifT, e_ifF, e_true, e_false, e_loop, e_l, e_top, e_seqN, e_seqE, e_seqR, e_blockN, e_blockR, e_blockE,
    e_finN, e_finX, e_finR, retV, resV, resL, outCL, outC, outL, outD, wantedV, opV, An.at_, prune, List.map_cons, List.map_nil, envOf, get, put, eval, ofV, nbeq, nble, binV, binV.aggV, unV, intV, eqOp, isConst, natV, optV, loadV, loadC, storeV, St.at_, partV, indexAddrV, fieldAddrV, sliceV, sliceV.rowSl, sliceV.strSl, bounds, cutP,
    builtinV, lenV, maxL, maxV, St.elems, roomy, rowOf, rowS, isStr, esz, tdOf, convV, buildV, fillV, partsV, okParts, fillL, D.whole, D.demoteC, D.demote, demoteL, D.global, D.leaf, D.cells, TI.agg, TD.rowish, callOpV, CC, keepB, St.borrowL, St.borrow, D.isLsl, adoptR, adoptC, adoptCL, adoptL, adopt, upd,
    List.toArray, Array.toList, List.length_cons, List.length_nil, List.length_map, List.length_append, List.length_replicate, List.replicate_succ, List.replicate_zero, List.replicate_one, ← List.map_take, ← List.map_drop, List.drop_zero, List.take_succ_cons, List.take_zero, List.take_nil, List.drop_succ_cons, List.drop_nil, Nat.zero_le, Nat.le_refl, Nat.sub_zero, List.getElem?_cons_succ, List.getElem?_cons_zero, List.getElem?_nil, List.any_cons, List.any_nil, List.all_cons, List.all_nil, List.append_nil, List.nil_append, List.cons_append, List.set_cons_zero, List.set_cons_succ,
    cond_true, cond_false, decide_true, decide_false, Bool.true_and, Bool.and_true, Bool.false_and, Bool.and_false, Bool.true_or, Bool.or_true, Bool.false_or, Bool.or_false, Bool.not_true, Bool.not_false, Bool.and_self, Bool.or_self, bT, bF, ieq, ine, decide_eq_true_eq, decide_not,
    Nat.reduceEqDiff, Nat.reduceAdd, Nat.reduceSub, Nat.reduceMul, Nat.reduceLeDiff, Nat.reduceLT, Nat.zero_add, Nat.add_zero, Option.getD_some, Option.getD_none, Option.isSome_some, Option.isSome_none, reduceIte, reduceCtorEq, and_self, and_true, true_and, not_true_eq_false, not_false_eq_true, false_imp_iff, forall_const, imp_self,
    Int.reduceNeg, Int.reduceLT, Int.reduceLE, Int.reduceGT, Int.reduceGE, Int.reduceAdd, Int.reduceSub, Int.reduceMul, Int.reduceToNat, Int.reduceEq, ne_eq, eq_self, beq_self_eq_true]
      · have f3 := f3 rfl hbne
        try simp only [List.length_nil, Nat.zero_add, Nat.add_zero, List.map_nil, List.append_nil, List.nil_append] at hw hgt h1 f3 fx0
        simp only [fi9, Tryd.f9, an9, hw, hgt, hs, h1, h2, h3, u0, u1, u2, u3, hIs, hm, v0, v1, v2, v3, v4, v5, v6, v7, v8, v9, v10, v11, v12, hkl, hxk, hset, hZ, hZl, hZt, Nat.mul_one, Int.toNat_natCast, List.getElem?_map, Option.map_some, byteD, bytes_plain, bytes_leaf, bytes_global, List.all_nil, Nat.le_refl, List.map_nil, List.append_nil, List.nil_append, dp, f0, f3, fx0, T3, T4, T5, T34, T57, T63, e_seq, e_region, e_dyn, e_dynS, stepD, accs, accP, accW, simpleOp, isAl, isExt, flipD, D.fresh1, D.row, D.plain, D.plain.plainL, St.close, St.close1, St.borrow, thawV, D.plainU, List.flatten_cons, List.flatten_nil, e_block, e_cond, e_ret, e_skip, e_exit, e_plain, e_guard, e_nil, e_op, e_ifT, e_ifF, e_true, e_false, e_loop, e_l, e_top, e_seqN, e_seqE, e_seqR, e_blockN, e_blockR, e_blockE,
    e_finN, e_finX, e_finR, retV, resV, resL, outCL, outC, outL, outD, wantedV, opV, An.at_, prune, List.map_cons, List.map_nil, envOf, get, put, eval, ofV, nbeq, nble, binV, binV.aggV, unV, intV, eqOp, isConst, natV, optV, loadV, loadC, storeV, St.at_, partV, indexAddrV, fieldAddrV, sliceV, sliceV.rowSl, sliceV.strSl, bounds, cutP,
    builtinV, lenV, maxL, maxV, St.elems, roomy, rowOf, rowS, isStr, esz, tdOf, convV, buildV, fillV, partsV, okParts, fillL, D.whole, D.demoteC, D.demote, demoteL, D.global, D.leaf, D.cells, TI.agg, TD.rowish, callOpV, CC, keepB, St.borrowL, St.borrow, D.isLsl, adoptR, adoptC, adoptCL, adoptL, adopt, upd,
    List.toArray, Array.toList, List.length_cons, List.length_nil, List.length_map, List.length_append, List.length_replicate, List.replicate_succ, List.replicate_zero, List.replicate_one, ← List.map_take, ← List.map_drop, List.drop_zero, List.take_succ_cons, List.take_zero, List.take_nil, List.drop_succ_cons, List.drop_nil, Nat.zero_le, Nat.le_refl, Nat.sub_zero, List.getElem?_cons_succ, List.getElem?_cons_zero, List.getElem?_nil, List.any_cons, List.any_nil, List.all_cons, List.all_nil, List.append_nil, List.nil_append, List.cons_append, List.set_cons_zero, List.set_cons_succ,
    cond_true, cond_false, decide_true, decide_false, Bool.true_and, Bool.and_true, Bool.false_and, Bool.and_false, Bool.true_or, Bool.or_true, Bool.false_or, Bool.or_false, Bool.not_true, Bool.not_false, Bool.and_self, Bool.or_self, bT, bF, ieq, ine, decide_eq_true_eq, decide_not,
    Nat.reduceEqDiff, Nat.reduceAdd, Nat.reduceSub, Nat.reduceMul, Nat.reduceLeDiff, Nat.reduceLT, Nat.zero_add, Nat.add_zero, Option.getD_some, Option.getD_none, Option.isSome_some, Option.isSome_none, reduceIte, reduceCtorEq, and_self, and_true, true_and, not_true_eq_false, not_false_eq_true, false_imp_iff, forall_const, imp_self,
    Int.reduceNeg, Int.reduceLT, Int.reduceLE, Int.reduceGT, Int.reduceGE, Int.reduceAdd, Int.reduceSub, Int.reduceMul, Int.reduceToNat, Int.reduceEq, ne_eq, eq_self, beq_self_eq_true]
    · have f1 := f1 hane
      rcases hd2 with ⟨rfl, rfl⟩ | rfl
      · obtain rfl := hsas rfl
        try simp only [List.length_nil, Nat.zero_add, Nat.add_zero, List.map_nil, List.append_nil, List.nil_append] at hw hgt h1 f2 fx1
        simp only [fi9, Tryd.f9, an9, hw, hgt, hs, h1, h2, h3, u0, u1, u2, u3, hIs, hm, v0, v1, v2, v3, v4, v5, v6, v7, v8, v9, v10, v11, v12, hkl, hxk, hset, hZ, hZl, hZt, Nat.mul_one, Int.toNat_natCast, List.getElem?_map, Option.map_some, byteD, bytes_plain, bytes_leaf, bytes_global, List.all_nil, Nat.le_refl, List.map_nil, List.append_nil, List.nil_append, dp, f1, f2, fx1, T3, T4, T5, T34, T57, T63, e_seq, e_region, e_dyn, e_dynS, stepD, accs, accP, accW, simpleOp, isAl, isExt, flipD, D.fresh1, D.row, D.plain, D.plain.plainL, St.close, St.close1, St.borrow, thawV, D.plainU, List.flatten_cons, List.flatten_nil, e_block, e_cond, e_ret, e_skip, e_exit, e_plain, e_guard, e_nil, e_op, e_ifT, e_ifF, e_true, e_false, e_loop, e_l, e_top, e_seqN, e_seqE, e_seqR, e_blockN, e_blockR, e_blockE,
    e_finN, e_finX, e_finR, retV, resV, resL, outCL, outC, outL, outD, wantedV, opV, An.at_, prune, List.map_cons, List.map_nil, envOf, get, put, eval, ofV, nbeq, nble, binV, binV.aggV, unV, intV, eqOp, isConst, natV, optV, loadV, loadC, storeV, St.at_, partV, indexAddrV, fieldAddrV, sliceV, sliceV.rowSl, sliceV.strSl, bounds, cutP,
    builtinV, lenV, maxL, maxV, St.elems, roomy, rowOf, rowS, isStr, esz, tdOf, convV, buildV, fillV, partsV, okParts, fillL, D.whole, D.demoteC, D.demote, demoteL, D.global, D.leaf, D.cells, TI.agg, TD.rowish, callOpV, CC, keepB, St.borrowL, St.borrow, D.isLsl, adoptR, adoptC, adoptCL, adoptL, adopt, upd,
    List.toArray, Array.toList, List.length_cons, List.length_nil, List.length_map, List.length_append, List.length_replicate, List.replicate_succ, List.replicate_zero, List.replicate_one, ← List.map_take, ← List.map_drop, List.drop_zero, List.take_succ_cons, List.take_zero, List.take_nil, List.drop_succ_cons, List.drop_nil, Nat.zero_le, Nat.le_refl, Nat.sub_zero, List.getElem?_cons_succ, List.getElem?_cons_zero, List.getElem?_nil, List.any_cons, List.any_nil, List.all_cons, List.all_nil, List.append_nil, List.nil_append, List.cons_append, List.set_cons_zero, List.set_cons_succ,
    cond_true, cond_false, decide_true, decide_false, Bool.true_and, Bool.and_true, Bool.false_and, Bool.and_false, Bool.true_or, Bool.or_true, Bool.false_or, Bool.or_false, Bool.not_true, Bool.not_false, Bool.and_self, Bool.or_self, bT, bF, ieq, ine, decide_eq_true_eq, decide_not,
    Nat.reduceEqDiff, Nat.reduceAdd, Nat.reduceSub, Nat.reduceMul, Nat.reduceLeDiff, Nat.reduceLT, Nat.zero_add, Nat.add_zero, Option.getD_some, Option.getD_none, Option.isSome_some, Option.isSome_none, reduceIte, reduceCtorEq, and_self, and_true, true_and, not_true_eq_false, not_false_eq_true, false_imp_iff, forall_const, imp_self,
    Int.reduceNeg, Int.reduceLT, Int.reduceLE, Int.reduceGT, Int.reduceGE, Int.reduceAdd, Int.reduceSub, Int.reduceMul, Int.reduceToNat, Int.reduceEq, ne_eq, eq_self, beq_self_eq_true]
      · simp only [fi9, Tryd.f9, an9, hw, hgt, hs, h1, h2, h3, u0, u1, u2, u3, hIs, hm, v0, v1, v2, v3, v4, v5, v6, v7, v8, v9, v10, v11, v12, hkl, hxk, hset, hZ, hZl, hZt, Nat.mul_one, Int.toNat_natCast, List.getElem?_map, Option.map_some, byteD, bytes_plain, bytes_leaf, bytes_global, List.all_nil, Nat.le_refl, List.map_nil, List.append_nil, List.nil_append, dp, f1, f2, fx1, T3, T4, T5, T34, T57, T63, e_seq, e_region, e_dyn, e_dynS, stepD, accs, accP, accW, simpleOp, isAl, isExt, flipD, D.fresh1, D.row, D.plain, D.plain.plainL, St.close, St.close1, St.borrow, thawV, D.plainU, List.flatten_cons, List.flatten_nil, e_block, e_cond, e_ret, e_skip, e_exit, e_plain, e_guard, e_nil, e_op, e_ifT, e_ifF, e_true, e_false, e_loop, e_l, e_top, e_seqN, e_seqE, e_seqR, e_blockN, e_blockR, e_blockE,
    e_finN, e_finX, e_finR, retV, resV, resL, outCL, outC, outL, outD, wantedV, opV, An.at_, prune, List.map_cons, List.map_nil, envOf, get, put, eval, ofV, nbeq, nble, binV, binV.aggV, unV, intV, eqOp, isConst, natV, optV, loadV, loadC, storeV, St.at_, partV, indexAddrV, fieldAddrV, sliceV, sliceV.rowSl, sliceV.strSl, bounds, cutP,
    builtinV, lenV, maxL, maxV, St.elems, roomy, rowOf, rowS, isStr, esz, tdOf, convV, buildV, fillV, partsV, okParts, fillL, D.whole, D.demoteC, D.demote, demoteL, D.global, D.leaf, D.cells, TI.agg, TD.rowish, callOpV, CC, keepB, St.borrowL, St.borrow, D.isLsl, adoptR, adoptC, adoptCL, adoptL, adopt, upd,
    List.toArray, Array.toList, List.length_cons, List.length_nil, List.length_map, List.length_append, List.length_replicate, List.replicate_succ, List.replicate_zero, List.replicate_one, ← List.map_take, ← List.map_drop, List.drop_zero, List.take_succ_cons, List.take_zero, List.take_nil, List.drop_succ_cons, List.drop_nil, Nat.zero_le, Nat.le_refl, Nat.sub_zero, List.getElem?_cons_succ, List.getElem?_cons_zero, List.getElem?_nil, List.any_cons, List.any_nil, List.all_cons, List.all_nil, List.append_nil, List.nil_append, List.cons_append, List.set_cons_zero, List.set_cons_succ,
    cond_true, cond_false, decide_true, decide_false, Bool.true_and, Bool.and_true, Bool.false_and, Bool.and_false, Bool.true_or, Bool.or_true, Bool.false_or, Bool.or_false, Bool.not_true, Bool.not_false, Bool.and_self, Bool.or_self, bT, bF, ieq, ine, decide_eq_true_eq, decide_not,
    Nat.reduceEqDiff, Nat.reduceAdd, Nat.reduceSub, Nat.reduceMul, Nat.reduceLeDiff, Nat.reduceLT, Nat.zero_add, Nat.add_zero, Option.getD_some, Option.getD_none, Option.isSome_some, Option.isSome_none, reduceIte, reduceCtorEq, and_self, and_true, true_and, not_true_eq_false, not_false_eq_true, false_imp_iff, forall_const, imp_self,
    Int.reduceNeg, Int.reduceLT, Int.reduceLE, Int.reduceGT, Int.reduceGE, Int.reduceAdd, Int.reduceSub, Int.reduceMul, Int.reduceToNat, Int.reduceEq, ne_eq, eq_self, beq_self_eq_true]
  · have hgt : ((a.length + b.length : Nat) : Int) > 600 := by omega
    rcases hd1 with ⟨rfl, rfl⟩ | rfl <;> rcases hd2 with ⟨rfl, rfl⟩ | rfl <;> try simp only [List.length_nil, Nat.zero_add, Nat.add_zero] at hw hgt
    all_goals simp only [fi9, Tryd.f9, an9, hw, hgt, hs, dp, T3, T4, T5, T34, T57, T63, e_seq, e_region, e_dyn, e_dynS, stepD, accs, accP, accW, simpleOp, isAl, isExt, flipD, D.fresh1, D.row, D.plain, D.plain.plainL, St.close, St.close1, St.borrow, thawV, D.plainU, List.flatten_cons, List.flatten_nil, e_block, e_cond, e_ret, e_skip, e_exit, e_plain, e_guard, e_nil, e_op, e_ifT, e_ifF, e_true, e_false, e_loop, e_l, e_top, e_seqN, e_seqE, e_seqR, e_blockN, e_blockR, e_blockE,
    e_finN, e_finX, e_finR, retV, resV, resL, outCL, outC, outL, outD, wantedV, opV, An.at_, prune, List.map_cons, List.map_nil, envOf, get, put, eval, ofV, nbeq, nble, binV, binV.aggV, unV, intV, eqOp, isConst, natV, optV, loadV, loadC, storeV, setC, St.at_, partV, indexAddrV, fieldAddrV, sliceV, sliceV.rowSl, sliceV.strSl, bounds, cutP,
    builtinV, lenV, maxL, maxV, appendV, St.elems, roomy, rowOf, rowS, isStr, esz, tdOf, convV, buildV, fillV, partsV, okParts, fillL, D.whole, D.demoteC, D.demote, demoteL, D.global, D.leaf, D.cells, TI.agg, TD.rowish, callOpV, CC, keepB, St.borrowL, St.borrow, D.isLsl, adoptR, adoptC, adoptCL, adoptL, adopt, upd,
    List.toArray, Array.toList, List.length_cons, List.length_nil, List.length_map, List.length_append, List.length_replicate, List.replicate_succ, List.replicate_zero, List.replicate_one, ← List.map_take, ← List.map_drop, List.drop_zero, List.take_succ_cons, List.take_zero, List.take_nil, List.drop_succ_cons, List.drop_nil, Nat.zero_le, Nat.le_refl, Nat.sub_zero, List.getElem?_cons_succ, List.getElem?_cons_zero, List.getElem?_nil, List.any_cons, List.any_nil, List.all_cons, List.all_nil, List.append_nil, List.nil_append, List.cons_append, List.set_cons_zero, List.set_cons_succ,
    cond_true, cond_false, decide_true, decide_false, Bool.true_and, Bool.and_true, Bool.false_and, Bool.and_false, Bool.true_or, Bool.or_true, Bool.false_or, Bool.or_false, Bool.not_true, Bool.not_false, Bool.and_self, Bool.or_self, bT, bF, ieq, ine, decide_eq_true_eq, decide_not,
    Nat.reduceEqDiff, Nat.reduceAdd, Nat.reduceSub, Nat.reduceMul, Nat.reduceLeDiff, Nat.reduceLT, Nat.zero_add, Nat.add_zero, Option.getD_some, Option.getD_none, Option.isSome_some, Option.isSome_none, reduceIte, reduceCtorEq, and_self, and_true, true_and, not_true_eq_false, not_false_eq_true, false_imp_iff, forall_const, imp_self,
    Int.reduceNeg, Int.reduceLT, Int.reduceLE, Int.reduceGT, Int.reduceGE, Int.reduceAdd, Int.reduceSub, Int.reduceMul, Int.reduceToNat, Int.reduceEq, ne_eq, eq_self, beq_self_eq_true]

end Go.Proofs.YtdmlojinmkcldaaDoor.V
