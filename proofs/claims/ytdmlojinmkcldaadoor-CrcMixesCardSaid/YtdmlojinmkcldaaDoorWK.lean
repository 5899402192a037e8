/-
Numbers without a sign, by their bits; rows of bytes to which is appended.
-/
import Derived.Test.YtdmlojinmkcldaaDoorWI
namespace Go.Proofs.YtdmlojinmkcldaaDoor.V
set_option linter.unusedSimpArgs false
set_option linter.unusedVariables false
open Go Go.RowKit

theorem wrap_u64 {x : Int} (h0 : 0 ≤ x) (h1 : x < 18446744073709551616) : IntKind.u64.wrap x = x := by
  simp [IntKind.wrap, IntKind.bits, IntKind.signed]; omega
theorem wrap_u32 {x : Int} (h0 : 0 ≤ x) (h1 : x < 4294967296) : IntKind.u32.wrap x = x := by
  simp [IntKind.wrap, IntKind.bits, IntKind.signed]; omega
theorem wrap_u8 {x : Int} (h0 : 0 ≤ x) (h1 : x < 256) : IntKind.u8.wrap x = x := by
  simp [IntKind.wrap, IntKind.bits, IntKind.signed]; omega
theorem wrap_uint {x : Int} (h0 : 0 ≤ x) (h1 : x < 18446744073709551616) : IntKind.u64.wrap x = x := wrap_u64 h0 h1
theorem wrap_u8_mod (x : Int) : IntKind.u8.wrap x = x % 256 := by
  simp [IntKind.wrap, IntKind.bits, IntKind.signed]
theorem wrap_u64_mod (x : Int) : IntKind.u64.wrap x = x % 18446744073709551616 := by
  simp [IntKind.wrap, IntKind.bits, IntKind.signed]
theorem wrap_u32_mod (x : Int) : IntKind.u32.wrap x = x % 4294967296 := by
  simp [IntKind.wrap, IntKind.bits, IntKind.signed]

theorem ofInt_nat (n m : Nat) : BitVec.ofInt n (m : Int) = BitVec.ofNat n m := by simp

/-- The kinds without a sign. -/
theorem bits_nat {k : IntKind} (hk : k.signed = false) (op : BinOp) (m n : Nat) (hm : m < 2 ^ k.bits) (hn : n < 2 ^ k.bits) :
    bitsV op k m n = match op with
      | .and => ((m &&& n : Nat) : Int)
      | .or => ((m ||| n : Nat) : Int)
      | .xor => ((m ^^^ n : Nat) : Int)
      | _ => ((m &&& (2 ^ k.bits - 1 - n) : Nat) : Int) := by
  have hw : ∀ z : Nat, z < 2 ^ k.bits → k.wrap (z : Int) = z := fun z hz => by
    unfold IntKind.wrap
    simp only [hk]
    have : ((z : Int) % (2 ^ k.bits : Int)) = z := Int.emod_eq_of_lt (by omega) (by exact_mod_cast hz)
    simp [this]
  have h1 : (BitVec.ofNat k.bits m).toNat = m := by simp [Nat.mod_eq_of_lt hm]
  have h2 : (BitVec.ofNat k.bits n).toNat = n := by simp [Nat.mod_eq_of_lt hn]
  have h3 : k.wrap ((BitVec.ofNat k.bits m &&& ~~~BitVec.ofNat k.bits n).toNat : Int) = ((m &&& (2 ^ k.bits - 1 - n) : Nat) : Int) := by
    rw [BitVec.toNat_and, BitVec.toNat_not, h1, h2]; exact hw _ (Nat.lt_of_le_of_lt Nat.and_le_left hm)
  unfold bitsV
  simp only [ofInt_nat]
  cases op
  case and => simp only []; rw [BitVec.toNat_and, h1, h2]; exact hw _ (Nat.lt_of_le_of_lt Nat.and_le_left hm)
  case or => simp only []; rw [BitVec.toNat_or, h1, h2]; exact hw _ (Nat.or_lt_two_pow hm hn)
  case xor => simp only []; rw [BitVec.toNat_xor, h1, h2]; exact hw _ (Nat.xor_lt_two_pow hm hn)
  all_goals exact h3

/-- Bytes as an argument. -/
theorem arg_bytes {H : Type} {enc : TypeId × Value → H} {P : Program} {r : Reach} {b0 : Nat} {held : Bool} {t e : TypeId} {v : Value} {d : DataW H} {ps : List MemPlace} {W : World} (ht : P.underlying t = some (.slice e)) (he : P.underlying e = some (.int .u8)) (hc : P.cellsOf e = 1)
    (hval : Value.okWide P W r b0 t v) (hd : DataW.Trod enc P W 0 (fun _ => true) held t v d ps) :
    ∃ (l : List UInt8) (d : D), ((d = .nilsl ∧ l = []) ∨ d = .vec 1 (l.map byteD) .none) ∧ Rep (fun _ => 0) (sizeAt W) W d v := by
  rcases arg_ints ht he hc hval hd with h | ⟨zs, _, hw, h⟩
  · exact ⟨[], .nilsl, .inl ⟨rfl, rfl⟩, h⟩
  · refine ⟨zs.map fun z => UInt8.ofNat z.toNat, _, .inr rfl, ?_⟩
    have : (zs.map fun z => UInt8.ofNat z.toNat).map byteD = zs.map (.int .u8) := by
      rw [List.map_map]
      apply List.map_congr_left
      intro z hz
      have := wf_u8 (hw z hz)
      have h2 : z.toNat < 256 := by omega
      simp [byteD, Nat.mod_eq_of_lt h2]; omega
    rw [this]; exact h

/-! ### Rows of bytes to which is appended -/
/-- A row of these bytes, of which one may append to the end; or one without any. -/
def LB (xs : List UInt8) (L : D) (τ : List Bool) : Prop := (xs = [] ∧ (L = .nilsl ∨ L = .vec 1 [] .exact)) ∨ ∃ t, L = .vec 1 (xs.map byteD) (.own t) ∧ τ[t]? = some true

theorem app_bytes {xs ys : List UInt8} {L : D} {τ : List Bool} (h : LB xs L τ) (hy : ys ≠ []) (hl : xs.length + ys.length ≤ 1000000) :
    ∃ t τ', τ'[t]? = some true ∧ ∀ ρ M B, appendV 1 1 ⟨ρ, M, τ, B⟩ L (ys.map byteD) = some (.vec 1 ((xs ++ ys).map byteD) (.own t), ⟨ρ, M, τ', B⟩) := by
  cases ys with
  | nil => exact absurd rfl hy
  | cons y r =>
    have hr : roomy (r.length + 1) 1 = true := by
      simp only [roomy, nble, decide_eq_true_eq]; simp at hl; omega
    rcases h with ⟨rfl, rfl | rfl⟩ | ⟨t, rfl, ht⟩
    · refine ⟨τ.length, τ ++ [true], by simp, fun ρ M B => ?_⟩
      simp [appendV, hr]
    · refine ⟨τ.length, τ ++ [true], by simp, fun ρ M B => ?_⟩
      simp [appendV, hr]
    · have hr2 : roomy (xs.length + (r.length + 1)) 1 = true := by
        simp only [roomy, nble, decide_eq_true_eq]; simp at hl; omega
      refine ⟨τ.length, τ.set t false ++ [true], by simp, fun ρ M B => ?_⟩
      simp [appendV, ht, hr2]

theorem LB.own {xs : List UInt8} {t : Nat} {τ : List Bool} (h : τ[t]? = some true) : LB xs (.vec 1 (xs.map byteD) (.own t)) τ := .inr ⟨t, rfl, h⟩

end Go.Proofs.YtdmlojinmkcldaaDoor.V
