/-
Numbers without a sign, by their bits; rows of bytes to which is appended.
-/
import Derived.Test.YtploddijjofphaaDoorXI
namespace Go.Proofs.YtploddijjofphaaDoor.V
set_option linter.unusedSimpArgs false
set_option linter.unusedVariables false
open Go Go.RowKit

theorem wrap_u64 {x : Int} (h0 : 0 ≤ x) (h1 : x < 18446744073709551616) : IntKind.u64.wrap x = x := by
  simp [IntKind.wrap, IntKind.bits, IntKind.signed]; omega
theorem wrap_u32 {x : Int} (h0 : 0 ≤ x) (h1 : x < 4294967296) : IntKind.u32.wrap x = x := by
  simp [IntKind.wrap, IntKind.bits, IntKind.signed]; omega
theorem wrap_u8 {x : Int} (h0 : 0 ≤ x) (h1 : x < 256) : IntKind.u8.wrap x = x := by
  simp [IntKind.wrap, IntKind.bits, IntKind.signed]; omega
theorem wrap_uint {x : Int} (h0 : 0 ≤ x) (h1 : x < 18446744073709551616) : IntKind.u64.wrap x = x := wrap_u64 h0 h1
theorem wrap_u8_mod (x : Int) : IntKind.u8.wrap x = x % 256 := by
  simp [IntKind.wrap, IntKind.bits, IntKind.signed]
theorem wrap_u64_mod (x : Int) : IntKind.u64.wrap x = x % 18446744073709551616 := by
  simp [IntKind.wrap, IntKind.bits, IntKind.signed]
theorem wrap_u32_mod (x : Int) : IntKind.u32.wrap x = x % 4294967296 := by
  simp [IntKind.wrap, IntKind.bits, IntKind.signed]

theorem ofInt_nat (n m : Nat) : BitVec.ofInt n (m : Int) = BitVec.ofNat n m := by simp

/-- The kinds without a sign. -/
theorem bits_nat {k : IntKind} (hk : k.signed = false) (op : BinOp) (m n : Nat) (hm : m < 2 ^ k.bits) (hn : n < 2 ^ k.bits) :
    bitsV op k m n = match op with
      | .and => ((m &&& n : Nat) : Int)
      | .or => ((m ||| n : Nat) : Int)
      | .xor => ((m ^^^ n : Nat) : Int)
      | _ => ((m &&& (2 ^ k.bits - 1 - n) : Nat) : Int) := by
  have hw : ∀ z : Nat, z < 2 ^ k.bits → k.wrap (z : Int) = z := fun z hz => by
    unfold IntKind.wrap
    simp only [hk]
    have : ((z : Int) % (2 ^ k.bits : Int)) = z := Int.emod_eq_of_lt (by omega) (by exact_mod_cast hz)
    simp [this]
  have h1 : (BitVec.ofNat k.bits m).toNat = m := by simp [Nat.mod_eq_of_lt hm]
  have h2 : (BitVec.ofNat k.bits n).toNat = n := by simp [Nat.mod_eq_of_lt hn]
  have h3 : k.wrap ((BitVec.ofNat k.bits m &&& ~~~BitVec.ofNat k.bits n).toNat : Int) = ((m &&& (2 ^ k.bits - 1 - n) : Nat) : Int) := by
    rw [BitVec.toNat_and, BitVec.toNat_not, h1, h2]; exact hw _ (Nat.lt_of_le_of_lt Nat.and_le_left hm)
  unfold bitsV
  simp only [ofInt_nat]
  cases op
  case and => simp only []; rw [BitVec.toNat_and, h1, h2]; exact hw _ (Nat.lt_of_le_of_lt Nat.and_le_left hm)
  case or => simp only []; rw [BitVec.toNat_or, h1, h2]; exact hw _ (Nat.or_lt_two_pow hm hn)
  case xor => simp only []; rw [BitVec.toNat_xor, h1, h2]; exact hw _ (Nat.xor_lt_two_pow hm hn)
  all_goals exact h3

end Go.Proofs.YtploddijjofphaaDoor.V
