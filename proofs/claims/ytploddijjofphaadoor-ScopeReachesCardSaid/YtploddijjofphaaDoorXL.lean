/-
Bits of numbers: how many a number has; xor with ones; shifts; numbers of 64 bits with a sign.
-/
import Derived.Test.YtploddijjofphaaDoorXK
namespace Go.Proofs.YtploddijjofphaaDoor.V
set_option linter.unusedSimpArgs false
set_option linter.unusedVariables false
open Go Go.RowKit

/-- How many bits a number has. -/
def bitsN (v : Nat) : Nat := if v = 0 then 0 else Nat.log2 v + 1

theorem bitsN_le (v k : Nat) : bitsN v ≤ k ↔ v < 2 ^ k := by
  unfold bitsN
  split
  · rename_i h; subst h
    simp only [Nat.zero_le, true_iff]; exact Nat.pow_pos (by decide)
  · rename_i h
    rw [← Nat.log2_lt h]; omega

theorem bitsN_zero : bitsN 0 = 0 := rfl
theorem bitsN_one : bitsN 1 = 1 := by
  have h1 := (bitsN_le 1 1).2 (by decide)
  have h2 := (bitsN_le 1 0)
  simp at h2; omega

theorem bitsN_div {v s : Nat} (h : 2 ^ s ≤ v) : bitsN v = bitsN (v / 2 ^ s) + s := by
  have key : ∀ k, bitsN (v / 2 ^ s) ≤ k ↔ bitsN v ≤ k + s := fun k => by
    rw [bitsN_le, bitsN_le, Nat.div_lt_iff_lt_mul (Nat.pow_pos (by decide)), Nat.pow_add]
  have h1 := (key (bitsN (v / 2 ^ s))).1 (Nat.le_refl _)
  have h2 : s < bitsN v := by
    rcases Nat.lt_or_ge s (bitsN v) with h2 | h2
    · exact h2
    · have := (bitsN_le v s).1 h2; omega
  have h3 := (key (bitsN v - s)).2 (by omega)
  omega

theorem bitsN_64 {v : Nat} (h : v < 18446744073709551616) : bitsN v ≤ 64 := (bitsN_le v 64).2 h

theorem bitsN_mono {u v : Nat} (h : u ≤ v) : bitsN u ≤ bitsN v := (bitsN_le u _).2 (Nat.lt_of_le_of_lt h ((bitsN_le v _).1 (Nat.le_refl _)))

theorem xor_ones {x n : Nat} (h : x < 2 ^ n) : x ^^^ (2 ^ n - 1) = 2 ^ n - 1 - x := by
  apply Nat.eq_of_testBit_eq
  intro i
  rw [Nat.testBit_xor, Nat.testBit_two_pow_sub_one, show 2 ^ n - 1 - x = 2 ^ n - (x + 1) by omega, Nat.testBit_two_pow_sub_succ h]
  by_cases hi : i < n
  · simp [hi]
  · have : x.testBit i = false := Nat.testBit_lt_two_pow (Nat.lt_of_lt_of_le h (Nat.pow_le_pow_right (by decide) (by omega)))
    simp [hi, this]

theorem wrap_i64_nat {x : Int} (h0 : -9223372036854775808 ≤ x) (h1 : x < 9223372036854775808) : IntKind.i64.wrap x = x := wrapI h0 (by omega)

theorem wrap_i64_big {x : Int} (h0 : 9223372036854775808 ≤ x) (h1 : x < 18446744073709551616) : IntKind.i64.wrap x = x - 18446744073709551616 := by
  simp [IntKind.wrap, IntKind.bits, IntKind.signed]; omega

theorem u64_i64 (x : Int) : IntKind.u64.wrap (IntKind.i64.wrap x) = IntKind.u64.wrap x := by
  simp [IntKind.wrap, IntKind.bits, IntKind.signed]; omega

theorem i64_u64 (x : Int) : IntKind.i64.wrap (IntKind.u64.wrap x) = IntKind.i64.wrap x := by
  simp [IntKind.wrap, IntKind.bits, IntKind.signed]

/-- Shifted down, without a sign. -/
theorem shr_nat (k : IntKind) (v s : Nat) (h : s ≤ k.bits) : shrV k (v : Int) (s : Int) = ((v / 2 ^ s : Nat) : Int) := by
  have h1 : min (s : Int).toNat k.bits = s := by simp; omega
  rw [shrV, h1, Int.fdiv_eq_ediv_of_nonneg _ (Int.pow_nonneg (by decide)), Int.natCast_ediv, Int.natCast_pow]
  rfl

/-- The pattern of a number with a sign. -/
theorem xor_i64 (m n : Nat) (hm : m < 18446744073709551616) (hn : n < 18446744073709551616) (a b : Int) (ha : a % 18446744073709551616 = m) (hb : b % 18446744073709551616 = n) : bitsV .xor .i64 a b = IntKind.i64.wrap ((m ^^^ n : Nat) : Int) := by
  unfold bitsV
  simp only []
  congr 1
  have e1 : (BitVec.ofInt IntKind.i64.bits a).toNat = m := by
    rw [show IntKind.i64.bits = 64 from rfl, BitVec.toNat_ofInt]
    have : ((2 ^ 64 : Nat) : Int) = 18446744073709551616 := by decide
    rw [this, ha]; rfl
  have e2 : (BitVec.ofInt IntKind.i64.bits b).toNat = n := by
    rw [show IntKind.i64.bits = 64 from rfl, BitVec.toNat_ofInt]
    have : ((2 ^ 64 : Nat) : Int) = 18446744073709551616 := by decide
    rw [this, hb]; rfl
  rw [BitVec.toNat_xor, e1, e2]

/-- Numbers as arguments. -/
theorem arg_u64 {H : Type} {enc : TypeId × Value → H} {P : Program} {r : Reach} {b0 base : Nat} {spare : Nat → Bool} {held : Bool} {t : TypeId} {v : Value} {d : DataW H} {ps : List MemPlace} {W : World} (ht : P.underlying t = some (.int .u64)) (hval : Value.okWide P W r b0 t v) (hd : DataW.Trod enc P W base spare held t v d ps) :
    ∃ n : Nat, n < 18446744073709551616 ∧ Rep [] (sizeAt W) W (.int .u64 n) v := by
  obtain ⟨n, hn, rfl, hr⟩ := arg_int ht hval hd
  simp [IntKind.has, IntKind.min, IntKind.max, IntKind.bits, IntKind.signed] at hn
  refine ⟨n.toNat, by omega, ?_⟩
  rw [show ((n.toNat : Nat) : Int) = n by omega]; exact hr

theorem arg_i64 {H : Type} {enc : TypeId × Value → H} {P : Program} {r : Reach} {b0 base : Nat} {spare : Nat → Bool} {held : Bool} {t : TypeId} {v : Value} {d : DataW H} {ps : List MemPlace} {W : World} (ht : P.underlying t = some (.int .i64)) (hval : Value.okWide P W r b0 t v) (hd : DataW.Trod enc P W base spare held t v d ps) :
    ∃ n : Int, -9223372036854775808 ≤ n ∧ n < 9223372036854775808 ∧ Rep [] (sizeAt W) W (.int .i64 n) v := by
  obtain ⟨n, hn, rfl, hr⟩ := arg_int ht hval hd
  simp [IntKind.has, IntKind.min, IntKind.max, IntKind.bits, IntKind.signed] at hn
  exact ⟨n, by omega, by omega, hr⟩

theorem arg_u8 {H : Type} {enc : TypeId × Value → H} {P : Program} {r : Reach} {b0 base : Nat} {spare : Nat → Bool} {held : Bool} {t : TypeId} {v : Value} {d : DataW H} {ps : List MemPlace} {W : World} (ht : P.underlying t = some (.int .u8)) (hval : Value.okWide P W r b0 t v) (hd : DataW.Trod enc P W base spare held t v d ps) :
    ∃ n : Nat, n < 256 ∧ Rep [] (sizeAt W) W (.int .u8 n) v := by
  obtain ⟨n, hn, rfl, hr⟩ := arg_int ht hval hd
  simp [IntKind.has, IntKind.min, IntKind.max, IntKind.bits, IntKind.signed] at hn
  refine ⟨n.toNat, by omega, ?_⟩
  rw [show ((n.toNat : Nat) : Int) = n by omega]; exact hr

theorem arg_u32 {H : Type} {enc : TypeId × Value → H} {P : Program} {r : Reach} {b0 base : Nat} {spare : Nat → Bool} {held : Bool} {t : TypeId} {v : Value} {d : DataW H} {ps : List MemPlace} {W : World} (ht : P.underlying t = some (.int .u32)) (hval : Value.okWide P W r b0 t v) (hd : DataW.Trod enc P W base spare held t v d ps) :
    ∃ n : Nat, n < 4294967296 ∧ Rep [] (sizeAt W) W (.int .u32 n) v := by
  obtain ⟨n, hn, rfl, hr⟩ := arg_int ht hval hd
  simp [IntKind.has, IntKind.min, IntKind.max, IntKind.bits, IntKind.signed] at hn
  refine ⟨n.toNat, by omega, ?_⟩
  rw [show ((n.toNat : Nat) : Int) = n by omega]; exact hr

theorem arg_bool {H : Type} {enc : TypeId × Value → H} {P : Program} {r : Reach} {b0 base : Nat} {spare : Nat → Bool} {held : Bool} {t : TypeId} {v : Value} {d : DataW H} {ps : List MemPlace} {W : World} (ht : P.underlying t = some .bool) (hval : Value.okWide P W r b0 t v) (hd : DataW.Trod enc P W base spare held t v d ps) :
    ∃ b : Bool, Rep [] (sizeAt W) W (.bool b) v := by
  obtain ⟨b, rfl, _⟩ := open_bool ht hval hd
  exact ⟨b, .bool b⟩

/-- A loop in its place, within a loop's body. -/
theorem in_loopP {T : Tab} {an : An} {C : Callees} {c c' : Code} {k : Kont} {st : St} {Q : X → St → Prop} (F : Option (X × St) → Prop) (h : ∃ x st', loopC T an C c' st = some (x, st') ∧ Q x st') (hc : c = c')
    (hq : ∀ x st', Q x st' → F (goX T an C k x st')) : F (goL T an C k (loopC T an C c st)) := by
  obtain ⟨x, st', h, hx⟩ := h
  subst hc; rw [h]; exact hq x st' hx

theorem app_own {xs ys : List UInt8} {i : Nat} {τ : List Bool} (h : τ[i]? = some true) (hl : xs.length + ys.length ≤ 1000000) (ρ : Env) (M) (B : Hp) :
    appendV 1 1 ⟨ρ, M, τ, B⟩ (.vec 1 (xs.map byteD) (.own i)) (ys.map byteD) = some (.vec 1 ((xs ++ ys).map byteD) (.own τ.length), ⟨ρ, M, τ.set i false ++ [true], B⟩) := by
  have hr : roomy (xs.length + ys.length) 1 = true := by
    simp only [roomy, nble, decide_eq_true_eq]; omega
  simp [appendV, h, hr]

theorem app_exact {ys : List UInt8} (hy : ys ≠ []) (hl : ys.length ≤ 1000000) (ρ : Env) (M) (τ : List Bool) (B : Hp) :
    appendV 1 1 ⟨ρ, M, τ, B⟩ (.vec 1 [] .exact) (ys.map byteD) = some (.vec 1 (ys.map byteD) (.own τ.length), ⟨ρ, M, τ ++ [true], B⟩) := by
  cases ys with
  | nil => exact absurd rfl hy
  | cons y r =>
    have hr : roomy (r.length + 1) 1 = true := by
      simp only [roomy, nble, decide_eq_true_eq]; simp at hl; omega
    simp [appendV, hr]

theorem bytes_global (l : List UInt8) : (l.map byteD).all D.global = true := List.all_eq_true.2 (fun x hx => by obtain ⟨b, _, rfl⟩ := List.mem_map.1 hx; rfl)
theorem bytes_plain (l : List UInt8) : (l.map byteD).all D.plain = true := List.all_eq_true.2 (fun x hx => by obtain ⟨b, _, rfl⟩ := List.mem_map.1 hx; rfl)
theorem bytes_leaf (l : List UInt8) : (l.map byteD).all D.leaf = true := List.all_eq_true.2 (fun x hx => by obtain ⟨b, _, rfl⟩ := List.mem_map.1 hx; rfl)

theorem xor_u8 (a b : UInt8) : bitsV .xor .u8 (a.toNat : Int) (b.toNat : Int) = ((a ^^^ b).toNat : Int) := by
  rw [bits_nat rfl .xor _ _ (by show _ < 2 ^ 8; exact a.toNat_lt) (by show _ < 2 ^ 8; exact b.toNat_lt), UInt8.toNat_xor]

/-- One byte more of a row that is laid byte by byte. -/
theorem setC_next (ys : List UInt8) (n i : Nat) (hl : ys.length = n) (c : UInt8) (hc : ys[i]? = some c) :
    setC ((ys.take i ++ List.replicate (n - i) 0).map byteD) i [.int .u8 c.toNat] = (ys.take (i + 1) ++ List.replicate (n - (i + 1)) 0).map byteD := by
  have hi := (List.getElem?_eq_some_iff.1 hc).1
  have h1 : (ys.take i).length = i := by simp; omega
  have h2 : (ys.take i ++ List.replicate (n - i) 0).take i = ys.take i := by rw [List.take_append_of_le_length (by omega), List.take_take]; simp
  have h3 : (ys.take i ++ List.replicate (n - i) (0 : UInt8)).drop (i + 1) = List.replicate (n - (i + 1)) 0 := by
    rw [List.drop_append, h1, List.drop_eq_nil_of_le (by omega), List.nil_append, List.drop_replicate]; congr 1; omega
  have h4 : ys.take (i + 1) = ys.take i ++ [c] := by rw [List.take_add_one, hc]; rfl
  unfold setC
  simp only [List.length_cons, List.length_nil, Nat.zero_add]
  rw [← List.map_take, ← List.map_drop, h2, h3, h4]
  simp [byteD]

theorem bytesOf_map : ∀ l : List UInt8, bytesOf (l.map byteD) = some l
  | [] => rfl
  | b :: r => by
    have := bytesOf_map r
    have h : byteOf (.int .u8 b.toNat) = some b := by simp [byteOf]
    simp_all [bytesOf, byteD]

end Go.Proofs.YtploddijjofphaaDoor.V
