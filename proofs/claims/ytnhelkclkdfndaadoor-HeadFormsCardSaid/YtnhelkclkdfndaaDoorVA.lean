/-
Sums of 32 bits: bit by bit, four by four; what is turned is seen; xored texts.
-/
import Derived.Test.YtnhelkclkdfndaaDoorXP
import Derived.KernelRfl
namespace Go.Proofs.YtnhelkclkdfndaaDoor.V
set_option linter.unusedSimpArgs false
set_option linter.unusedVariables false
open Go Go.RowKit

def polyN : Nat := 2197175160
def bitN (v : Nat) : Nat := v / 2 ^^^ (if v % 2 = 1 then polyN else 0)
def tabN : List Nat := [0, 274646895, 549293790, 820201905, 1098587580, 1361435347, 1640403810, 1905808397, 2197175160, 2460548119, 2722870694, 2987750089, 3280807620, 3553878443, 3811616794, 4084100981]
def halfN (v : Nat) : Nat := v / 16 ^^^ tabN.getD (v % 16) 0
def byteN (v c : Nat) : Nat := halfN (halfN (v ^^^ c))
def crcN (v : Nat) (l : List UInt8) : Nat := l.foldl (fun v c => byteN v c.toNat) v
def moreS (s : Nat) (l : List UInt8) : Nat := 4294967295 - crcN (4294967295 - s) l

theorem xor_div2 (a b : Nat) : (a ^^^ b) / 2 = a / 2 ^^^ b / 2 := by
  apply Nat.eq_of_testBit_eq
  intro i
  simp [Nat.testBit_div_two]

theorem xor_mod2 (a b : Nat) : (a ^^^ b) % 2 = (a % 2 + b % 2) % 2 := by
  have h := Nat.testBit_xor a b 0
  simp only [Nat.testBit_zero] at h
  rcases Nat.mod_two_eq_zero_or_one a with h1 | h1 <;> rcases Nat.mod_two_eq_zero_or_one b with h2 | h2 <;> rcases Nat.mod_two_eq_zero_or_one (a ^^^ b) with h3 | h3 <;> simp [h1, h2, h3] at h ⊢

theorem bit_xor (a b : Nat) : bitN (a ^^^ b) = bitN a ^^^ bitN b := by
  unfold bitN
  rw [xor_div2, xor_mod2]
  rcases Nat.mod_two_eq_zero_or_one a with h1 | h1 <;> rcases Nat.mod_two_eq_zero_or_one b with h2 | h2 <;> rw [h1, h2] <;> simp only [Nat.zero_add, Nat.add_zero, Nat.zero_mod, Nat.one_mod, if_pos, if_neg, Nat.reduceAdd, Nat.reduceMod, Nat.xor_zero, reduceIte, Nat.reduceEqDiff]
  · rw [Nat.xor_assoc]
  · rw [Nat.xor_assoc, Nat.xor_assoc]; congr 1; exact Nat.xor_comm _ _
  · rw [Nat.xor_assoc, Nat.xor_comm polyN, Nat.xor_assoc, Nat.xor_self, Nat.xor_zero]

theorem bit_twice (x : Nat) : bitN (2 * x) = x := by
  unfold bitN
  rw [if_neg (by omega)]; simp

theorem split_16 (v : Nat) : v = 16 * (v / 16) ^^^ v % 16 := by
  apply Nat.eq_of_testBit_eq
  intro i
  have h1 : 16 * (v / 16) = 2 ^ 4 * (v / 2 ^ 4) := rfl
  have h2 : v % 16 = v % 2 ^ 4 := rfl
  rw [Nat.testBit_xor, h1, h2, Nat.testBit_two_pow_mul, Nat.testBit_mod_two_pow, Nat.testBit_div_two_pow]
  by_cases h : i < 4
  · simp [h, Nat.not_le.2 h]
  · have : 4 ≤ i := by omega
    simp [h, this, Nat.sub_add_cancel]

theorem tab_bit : ∀ r : Fin 16, bitN (bitN (bitN (bitN r.val))) = tabN.getD r.val 0 := of_decide_eq_true (by kernel_rfl)

theorem half_bit (v : Nat) : halfN v = bitN (bitN (bitN (bitN v))) := by
  have h := tab_bit ⟨v % 16, by omega⟩
  conv => rhs; rw [split_16 v]
  rw [bit_xor, bit_xor, bit_xor, bit_xor, h, show 16 * (v / 16) = 2 * (2 * (2 * (2 * (v / 16)))) by omega, bit_twice, bit_twice, bit_twice, bit_twice]
  rfl

theorem bit_lt {v : Nat} (h : v < 4294967296) : bitN v < 4294967296 := by
  unfold bitN
  refine Nat.xor_lt_two_pow (n := 32) (by omega) ?_
  split <;> simp [polyN]

theorem half_lt {v : Nat} (h : v < 4294967296) : halfN v < 4294967296 := by
  rw [half_bit]; exact bit_lt (bit_lt (bit_lt (bit_lt h)))

theorem byte_lt {v c : Nat} (h : v < 4294967296) (hc : c < 4294967296) : byteN v c < 4294967296 := half_lt (half_lt (Nat.xor_lt_two_pow (n := 32) h hc))

theorem crc_lt : ∀ (l : List UInt8) {v : Nat}, v < 4294967296 → crcN v l < 4294967296
  | [], v, h => h
  | c :: r, v, h => crc_lt r (byte_lt h (by have := c.toNat_lt; omega))

theorem crc_append (v : Nat) (a b : List UInt8) : crcN v (a ++ b) = crcN (crcN v a) b := List.foldl_append

theorem half_xor (a b : Nat) : halfN (a ^^^ b) = halfN a ^^^ halfN b := by simp only [half_bit, bit_xor]

theorem xor4 (a b c d : Nat) : (a ^^^ b) ^^^ (c ^^^ d) = (a ^^^ c) ^^^ (b ^^^ d) := by
  rw [Nat.xor_assoc, Nat.xor_assoc, ← Nat.xor_assoc b, ← Nat.xor_assoc c, Nat.xor_comm b c]

theorem byte_xor (a b c d : Nat) : byteN (a ^^^ b) (c ^^^ d) = byteN a c ^^^ byteN b d := by
  unfold byteN
  rw [xor4, half_xor, half_xor]

theorem xor_right_cancel {a b c : Nat} (h : a ^^^ c = b ^^^ c) : a = b := by
  have := congrArg (· ^^^ c) h
  simpa [Nat.xor_assoc] using this

theorem bit_inj {a b : Nat} (ha : a < 4294967296) (hb : b < 4294967296) (h : bitN a = bitN b) : a = b := by
  have key : ∀ x, x < 4294967296 → (bitN x).testBit 31 = decide (x % 2 = 1) := fun x hx => by
    have h1 : (x / 2).testBit 31 = false := Nat.testBit_lt_two_pow (by omega)
    have h2 : polyN.testBit 31 = true := by decide
    unfold bitN
    rw [Nat.testBit_xor, h1]
    split
    · rename_i h3; simp [h3, h2]
    · rename_i h3; simp [h3]
  have hp : decide (a % 2 = 1) = decide (b % 2 = 1) := by rw [← key a ha, ← key b hb, h]
  have hp2 : a % 2 = b % 2 := by
    rcases Nat.mod_two_eq_zero_or_one a with h1 | h1 <;> rcases Nat.mod_two_eq_zero_or_one b with h2 | h2 <;> simp [h1, h2] at hp ⊢
  unfold bitN at h
  rw [hp2] at h
  have := xor_right_cancel h
  omega

theorem half_inj {a b : Nat} (ha : a < 4294967296) (hb : b < 4294967296) (h : halfN a = halfN b) : a = b := by
  rw [half_bit, half_bit] at h
  exact bit_inj ha hb (bit_inj (bit_lt ha) (bit_lt hb) (bit_inj (bit_lt (bit_lt ha)) (bit_lt (bit_lt hb)) (bit_inj (bit_lt (bit_lt (bit_lt ha))) (bit_lt (bit_lt (bit_lt hb))) h)))

theorem byte_inj {a b c : Nat} (ha : a < 4294967296) (hb : b < 4294967296) (hc : c < 4294967296) (h : byteN a c = byteN b c) : a = b := by
  have h1 := Nat.xor_lt_two_pow (n := 32) ha hc
  have h2 := Nat.xor_lt_two_pow (n := 32) hb hc
  exact xor_right_cancel (half_inj h1 h2 (half_inj (half_lt h1) (half_lt h2) h))

theorem byte_inj2 {a c d : Nat} (ha : a < 4294967296) (hc : c < 4294967296) (hd : d < 4294967296) (h : byteN a c = byteN a d) : c = d := by
  have h1 := Nat.xor_lt_two_pow (n := 32) ha hc
  have h2 := Nat.xor_lt_two_pow (n := 32) ha hd
  have := half_inj h1 h2 (half_inj (half_lt h1) (half_lt h2) h)
  rw [Nat.xor_comm a c, Nat.xor_comm a d] at this
  exact xor_right_cancel this

theorem crc_inj : ∀ (l : List UInt8) {a b : Nat}, a < 4294967296 → b < 4294967296 → crcN a l = crcN b l → a = b
  | [], a, b, _, _, h => h
  | c :: r, a, b, ha, hb, h => by
    have hc : c.toNat < 4294967296 := by have := c.toNat_lt; omega
    exact byte_inj ha hb hc (crc_inj r (byte_lt ha hc) (byte_lt hb hc) h)

/-- One byte that is another one is seen. -/
theorem crc_turned (x y : List UInt8) (c d : UInt8) {v : Nat} (hv : v < 4294967296) (h : crcN v (x ++ c :: y) = crcN v (x ++ d :: y)) : c = d := by
  have hc : c.toNat < 4294967296 := by have := c.toNat_lt; omega
  have hd : d.toNat < 4294967296 := by have := d.toNat_lt; omega
  rw [crc_append, crc_append] at h
  have h1 := crc_lt x hv
  have := byte_inj2 h1 hc hd (crc_inj y (byte_lt h1 hc) (byte_lt h1 hd) h)
  exact UInt8.toNat_inj.1 this

theorem more_lt (s : Nat) (l : List UInt8) : moreS s l < 4294967296 := by unfold moreS; omega

theorem more_append {s : Nat} (hs : s < 4294967296) (a b : List UInt8) : moreS s (a ++ b) = moreS (moreS s a) b := by
  have := crc_lt a (v := 4294967295 - s) (by omega)
  unfold moreS
  rw [crc_append, show 4294967295 - (4294967295 - crcN (4294967295 - s) a) = crcN (4294967295 - s) a by omega]

theorem more_turned (x y : List UInt8) (c d : UInt8) {s : Nat} (hs : s < 4294967296) (h : moreS s (x ++ c :: y) = moreS s (x ++ d :: y)) : c = d := by
  have h1 := crc_lt (x ++ c :: y) (v := 4294967295 - s) (by omega)
  have h2 := crc_lt (x ++ d :: y) (v := 4294967295 - s) (by omega)
  unfold moreS at h
  exact crc_turned x y c d (v := 4294967295 - s) (by omega) (by omega)

/-- Three texts, xored. -/
def xor3 : List UInt8 → List UInt8 → List UInt8 → List UInt8
  | x :: a, y :: b, z :: c => (x ^^^ y ^^^ z) :: xor3 a b c
  | _, _, _ => []

theorem crc_xor3 : ∀ (a b c : List UInt8) (u v w : Nat), a.length = b.length → b.length = c.length → crcN (u ^^^ v ^^^ w) (xor3 a b c) = crcN u a ^^^ crcN v b ^^^ crcN w c
  | [], [], [], u, v, w, _, _ => rfl
  | x :: a, y :: b, z :: c, u, v, w, h1, h2 => by
    have := crc_xor3 a b c (byteN u x.toNat) (byteN v y.toNat) (byteN w z.toNat) (by simpa using h1) (by simpa using h2)
    rw [← byte_xor, ← byte_xor] at this
    simpa [crcN, xor3, UInt8.toNat_xor] using this

theorem ones_xor {x : Nat} (h : x < 4294967296) : 4294967295 ^^^ x = 4294967295 - x := by
  rw [Nat.xor_comm]; exact xor_ones (n := 32) h

theorem more_xor3 (a b c : List UInt8) (h1 : a.length = b.length) (h2 : b.length = c.length) : moreS 0 (xor3 a b c) = moreS 0 a ^^^ moreS 0 b ^^^ moreS 0 c := by
  have h := crc_xor3 a b c 4294967295 4294967295 4294967295 h1 h2
  rw [Nat.xor_self, Nat.zero_xor] at h
  have e : ∀ l, moreS 0 l = 4294967295 ^^^ crcN 4294967295 l := fun l => by
    rw [ones_xor (crc_lt l (by omega))]; rfl
  rw [e, e, e, e, h, xor4 4294967295, Nat.xor_self, Nat.zero_xor]
  generalize crcN 4294967295 a ^^^ crcN 4294967295 b = d
  rw [← Nat.xor_assoc, ← Nat.xor_assoc, Nat.xor_comm 4294967295 d]

end Go.Proofs.YtnhelkclkdfndaaDoor.V
