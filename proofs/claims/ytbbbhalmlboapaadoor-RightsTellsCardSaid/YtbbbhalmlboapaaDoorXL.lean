import Derived.Test.YtbbbhalmlboapaaDoorXH
import Derived.ChangeShapes
import Derived.ChangeSlices
import Derived.ChangeMaps5
import Derived.ChangeSame
import Derived.ChangeVars
import Derived.JoinedOf
import Derived.RowKit
import Derived.RowKitTokens
import Derived.LaidLaws
import Derived.LaidHandle
/-
The bridge: from a law that answers true over the interpreter to its row's contract; an argument's reading as the interpreter takes it.
-/
namespace Go.Proofs.YtbbbhalmlboapaaDoor.V
set_option linter.unusedSimpArgs false
set_option linter.unusedVariables false
open Go Go.RowKit Go.ChangeShapes

variable {H : Type} {enc : TypeId × Value → H} {P : Program}

theorem trodAll_carry (hl : laidOutB P = true) {W W' : World} (hb : Below W.heap.size W W') : ∀ {ts : List TypeId} {vs : List Value} {ds : List (DataW H)} {p : List MemPlace},
    DataW.TrodAll enc P W 0 (fun _ => true) true ts vs ds p → (∀ t, t ∈ ts → P.readableRec t = true ∧ t < P.types.size) → (∀ x, x ∈ p → x.block < W.heap.size) →
    DataW.TrodAll enc P W' 0 (fun b => decide (b < W.heap.size)) true ts vs ds p
  | [], vs, ds, p, h, _, _ => by
    obtain ⟨rfl, rfl, rfl⟩ := trodAll_nil h
    exact rfl
  | t :: ts, vs, ds, p, h, hr, hlt => by
    obtain ⟨v, vs', d, ds', q, r, rfl, rfl, rfl, h1, h2⟩ := trodAll_cons h
    obtain ⟨r1, r2⟩ := hr t (by simp)
    exact ⟨q, r, Below.trod hl r1 r2 h1 hb (fun x hx => hlt x (List.mem_append_left _ hx)), trodAll_carry hl hb h2 (fun t ht => hr t (by simp [ht])) (fun x hx => hlt x (List.mem_append_right _ hx)), rfl⟩

theorem contract_of {fn : Func} {f : FuncId} {s : ChangeSpec} {tb : TypeId} {apart fresh handsOn : Bool} {W : World} {args : Array Value} {ds gs : List (DataW H)} {before : List MemPlace} (hv : s.vars = [])
    (hs : s.fn H (ds ++ []) = { results := [.lit (.bool true)], args := ds }) (hrt : fn.resultTypes = #[tb]) (htb : P.underlying tb = some .bool) (hl : laidOutB P = true)
    (hr : (fn.params.toList.all fun t => P.readableRec t && decide (t < P.types.size)) = true) (hW : DataW.Whole enc P fn.params.toList s.vars apart W args.toList ds gs before)
    (hc : Calls P f args W fun e W' => e = .returned (.bool true) ∧ Below W.heap.size W W') :
    Calls P f args W fun e W' => ∃ v, e = .returned v ∧ s.post enc P fn apart fresh handsOn false W args v W' := by
  have hW' := hW
  obtain ⟨p, q, hA, hV, rfl, hfz, hnd⟩ := hW
  rw [hv] at hV
  obtain ⟨rfl, rfl⟩ : gs = [] ∧ q = [] := by
    cases gs with
    | nil => exact ⟨rfl, hV⟩
    | cons g r => exact absurd hV (by intro h; cases h)
  refine hc.mono fun e W' ⟨he, hb⟩ => ?_
  subst he
  refine ⟨_, rfl, ds, [], _, [], p, [], hW', ?_, ?_, ?_, hb.frame _, fun h => by cases h⟩
  · rw [hs, hrt]; exact trodAll_mk1 (shut_bool htb true)
  · rw [hs]
    exact trodAll_carry hl hb hA (fun t ht => by
      have := List.all_eq_true.1 hr t ht
      simp only [Bool.and_eq_true, decide_eq_true_eq] at this
      exact this) (fun x hx => by simpa using hW'.lt x (by simp [hx]))
  · rw [hs, hv]; exact rfl

theorem arg_int {r : Reach} {b0 base : Nat} {spare : Nat → Bool} {held : Bool} {t : TypeId} {k : IntKind} {v : Value} {d : DataW H} {ps : List MemPlace} {W : World} (ht : P.underlying t = some (.int k)) (hval : Value.okWide P W r b0 t v) (hd : DataW.Trod enc P W base spare held t v d ps) :
    ∃ n, k.has n ∧ v = .int k n ∧ Rep [] (sizeAt W) W (.int k n) v := by
  obtain ⟨n, rfl, rfl, rfl, hw⟩ := open_int ht hval hd
  refine ⟨n, ?_, rfl, .int k n⟩
  simp only [Value.okWide, ht, Cell.okWide, Cell.ok] at hval
  exact hval.2

theorem wf_u8 {n : Int} (h : (Lit.int .u8 n).wf = true) : 0 ≤ n ∧ n ≤ 255 := by
  simpa [Lit.wf, IntKind.min, IntKind.max, IntKind.bits, IntKind.signed] using h

theorem reach_le {n : Nat} (h : n ≤ reachBytes) : n ≤ 140737488351232 := h

theorem arg_str {r : Reach} {b0 base : Nat} {spare : Nat → Bool} {held : Bool} {t : TypeId} {v : Value} {d : DataW H} {ps : List MemPlace} {W : World} (ht : P.underlying t = some .string) (hval : Value.okWide P W r b0 t v) (hd : DataW.Trod enc P W base spare held t v d ps) (hw : (d.weights P t).all (· ≤ reachBytes) = true) :
    ∃ l : List UInt8, l.length ≤ 140737488351232 ∧ Rep [] (sizeAt W) W (.str l) v := by
  obtain ⟨s, rfl, rfl, rfl, _⟩ := Go.ChangeMaps.open_string ht hval hd
  refine ⟨s.data.toList, ?_, .str s⟩
  unfold DataW.weights at hw
  simp only [List.all_cons, List.all_nil, Bool.and_true, decide_eq_true_eq] at hw
  exact reach_le (by simpa using hw)

/-- Numbers of one kind, as an argument. -/
theorem arg_ints {r : Reach} {b0 : Nat} {held : Bool} {t e : TypeId} {k : IntKind} {v : Value} {d : DataW H} {ps : List MemPlace} {W : World} (ht : P.underlying t = some (.slice e)) (he : P.underlying e = some (.int k)) (hc : P.cellsOf e = 1) (hb : 1 ≤ P.bytesOf e)
    (hval : Value.okWide P W r b0 t v) (hd : DataW.Trod enc P W 0 (fun _ => true) held t v d ps) (hw : (d.weights P t).all (· ≤ reachBytes) = true) :
    ∃ zs : List Int, zs.length ≤ 140737488351232 ∧ (∀ n, n ∈ zs → (Lit.int k n).wf = true) ∧ Rep [] (sizeAt W) W (.vec 1 (zs.map (.int k)) .none) v := by
  obtain ⟨fuel, hf⟩ := hd
  rcases open_ints ht he hc hf with ⟨h1, _⟩ | ⟨a, len, cap, zs, h1, _, h3, h4, h5, h6, h7, h8⟩
  · obtain ⟨a0, l0, c0, rfl⟩ := Go.WideShapes.okWide_slice ht hval
    simp [Value.cells] at h1
    obtain ⟨rfl, rfl, rfl⟩ := h1
    exact ⟨[], by simp, fun n hn => (by cases hn), .nilv _ _ (.inl rfl)⟩
  · obtain ⟨a0, l0, c0, rfl⟩ := Go.WideShapes.okWide_slice ht hval
    simp [Value.cells] at h1
    obtain ⟨rfl, rfl, rfl⟩ := h1
    have hsp : a.spot = none := by
      simp only [Value.okWide, ht, Cell.okWide, Cell.ok] at hval
      exact hval.2.2.2.1
    obtain ⟨b, off, sp⟩ := a
    simp only at hsp
    subst hsp
    simp only [if_true] at h5
    have hlen : (zs.take l0).length = l0 := by simp; omega
    have hd : d = .slice (lits k (zs.take l0)) (lits k (zs.drop l0)) := congrArg Prod.fst h6
    have hle : l0 ≤ 140737488351232 := by
      subst hd
      unfold DataW.weights at hw
      simp only [ht, List.all_cons, Bool.and_eq_true, decide_eq_true_eq, lits, List.length_map] at hw
      have := hw.1
      rw [hlen] at this
      refine reach_le (Nat.le_trans ?_ this)
      exact Nat.le_trans (Nat.le_add_right _ _) (Nat.le_mul_of_pos_right _ hb)
    refine ⟨zs.take l0, by rw [hlen]; exact hle, fun n hn => h8 n (List.mem_of_mem_take hn), ?_⟩
    have := rep_row (bx := []) (W := W) (b := b) (off := off) (cap := c0) (xs := (zs.take l0).map (.int k)) (fun i => .int k (zs.getD i 0)) (by simp; omega) (fun x hx => by
      obtain ⟨n, _, rfl⟩ := List.mem_map.1 hx
      rfl) (fun i d hi => by
        rw [List.getElem?_map] at hi
        have hil : i < l0 := by
          rcases Nat.lt_or_ge i l0 with h | h
          · exact h
          · rw [List.getElem?_eq_none (by simp; omega)] at hi; cases hi
        rw [List.getElem?_take_of_lt hil] at hi
        have hiz : i < zs.length := by omega
        rw [List.getElem?_eq_getElem hiz] at hi
        simp at hi
        subst hi
        refine ⟨?_, ?_⟩
        · have := h7 i hiz
          rw [add_plain] at this; simpa using this
        · simp [hiz]; exact .int k _)
    rw [List.length_map, hlen] at this
    exact this

/-- Bytes as an argument. -/
theorem arg_bytes {r : Reach} {b0 : Nat} {held : Bool} {t e : TypeId} {v : Value} {d : DataW H} {ps : List MemPlace} {W : World} (ht : P.underlying t = some (.slice e)) (he : P.underlying e = some (.int .u8)) (hc : P.cellsOf e = 1) (hb : 1 ≤ P.bytesOf e)
    (hval : Value.okWide P W r b0 t v) (hd : DataW.Trod enc P W 0 (fun _ => true) held t v d ps) (hw : (d.weights P t).all (· ≤ reachBytes) = true) :
    ∃ l : List UInt8, l.length ≤ 140737488351232 ∧ Rep [] (sizeAt W) W (.vec 1 (l.map byteD) .none) v := by
  obtain ⟨zs, h0, hz, h⟩ := arg_ints ht he hc hb hval hd hw
  refine ⟨zs.map fun z => UInt8.ofNat z.toNat, by simpa using h0, ?_⟩
  have : (zs.map fun z => UInt8.ofNat z.toNat).map byteD = zs.map (.int .u8) := by
    rw [List.map_map]
    apply List.map_congr_left
    intro z hzm
    have := wf_u8 (hz z hzm)
    have h2 : z.toNat < 256 := by omega
    simp [byteD, Nat.mod_eq_of_lt h2]; omega
  rw [this]; exact h

theorem all_app {α : Type} {p : α → Bool} {l m : List α} (h : (l ++ m).all p = true) : l.all p = true ∧ m.all p = true := by
  rw [List.all_append, Bool.and_eq_true] at h; exact h

/-! ### Arguments of several cells -/
def isAggB (P : Program) (t : TypeId) : Bool :=
  match P.underlying t with
  | some (.struct _) | some (.array _ _) => true
  | _ => false

theorem arg_agg {r : Reach} {b0 : Nat} {t : TypeId} {ts : List TypeId} {v : Value} {W : World} (ha : isAggB P t = true) (hts : P.cellTypes P.depth t = some ts) (hval : Value.okWide P W r b0 t v) :
    ∃ cs : Array Value, v = .agg cs ∧ cs.size = P.cellsOf t ∧ ∀ i x, cs[i]? = some x → ∃ u, ts[i % ts.length]? = some u ∧ Cell.okWide P W r b0 u x := by
  unfold isAggB at ha
  unfold Value.okWide at hval
  have key : ∃ cs : Array Value, v = .agg cs ∧ cs.size = P.cellsOf t ∧ Row.okWide P W r b0 t cs := by
    split at ha
    · rename_i fs h; rw [h] at hval; exact hval
    · rename_i n e h; rw [h] at hval; exact hval
    · cases ha
  obtain ⟨cs, h1, h2, ts', h3, _, h4⟩ := key
  rw [hts] at h3
  injection h3 with h3; subst h3
  exact ⟨cs, h1, h2, h4⟩

theorem cell_str {r : Reach} {b0 : Nat} {u : TypeId} {x : Value} {W : World} (hu : P.underlying u = some .string) (h : Cell.okWide P W r b0 u x) : ∃ s : ByteArray, x = .string s := by
  simp only [Cell.okWide, hu] at h
  cases x <;> simp_all [Cell.ok]

theorem cell_bool {r : Reach} {b0 : Nat} {u : TypeId} {x : Value} {W : World} (hu : P.underlying u = some .bool) (h : Cell.okWide P W r b0 u x) : ∃ b : Bool, x = .bool b := by
  simp only [Cell.okWide, hu] at h
  cases x <;> simp_all [Cell.ok]

theorem cell_int {r : Reach} {b0 : Nat} {u : TypeId} {k : IntKind} {x : Value} {W : World} (hu : P.underlying u = some (.int k)) (h : Cell.okWide P W r b0 u x) : ∃ n, x = .int k n ∧ k.has n := by
  simp only [Cell.okWide, hu] at h
  cases x <;> simp_all [Cell.ok]

theorem rep_agg {bx : List Nat} {s : Nat → Nat} {W : World} {ds : List D} {cs : Array Value} (hl : ds.length = cs.size) (h : ∀ (i : Nat) (d : D), ds[i]? = some d → ∃ v : Value, cs[i]? = some v ∧ Rep bx s W d v) : Rep bx s W (.agg ds) (.agg cs) :=
  .agg ds cs hl (fun i d hi => by
    obtain ⟨v, hv, hr⟩ := h i d hi
    have : cs.getD i Go.undef = v := by simp [Array.getD_eq_getD_getElem?, hv]
    rw [this]; exact hr)

end Go.Proofs.YtbbbhalmlboapaaDoor.V

/-
Numbers without a sign, by their bits; rows of bytes to which is appended.
-/
namespace Go.Proofs.YtbbbhalmlboapaaDoor.V
set_option linter.unusedSimpArgs false
set_option linter.unusedVariables false
open Go Go.RowKit

theorem wrap_u64 {x : Int} (h0 : 0 ≤ x) (h1 : x < 18446744073709551616) : IntKind.u64.wrap x = x := by
  simp [IntKind.wrap, IntKind.bits, IntKind.signed]; omega
theorem wrap_u32 {x : Int} (h0 : 0 ≤ x) (h1 : x < 4294967296) : IntKind.u32.wrap x = x := by
  simp [IntKind.wrap, IntKind.bits, IntKind.signed]; omega
theorem wrap_u8 {x : Int} (h0 : 0 ≤ x) (h1 : x < 256) : IntKind.u8.wrap x = x := by
  simp [IntKind.wrap, IntKind.bits, IntKind.signed]; omega
theorem wrap_uint {x : Int} (h0 : 0 ≤ x) (h1 : x < 18446744073709551616) : IntKind.u64.wrap x = x := wrap_u64 h0 h1
theorem wrap_u8_mod (x : Int) : IntKind.u8.wrap x = x % 256 := by
  simp [IntKind.wrap, IntKind.bits, IntKind.signed]
theorem wrap_u64_mod (x : Int) : IntKind.u64.wrap x = x % 18446744073709551616 := by
  simp [IntKind.wrap, IntKind.bits, IntKind.signed]
theorem wrap_u32_mod (x : Int) : IntKind.u32.wrap x = x % 4294967296 := by
  simp [IntKind.wrap, IntKind.bits, IntKind.signed]

theorem ofInt_nat (n m : Nat) : BitVec.ofInt n (m : Int) = BitVec.ofNat n m := by simp

/-- The kinds without a sign. -/
theorem bits_nat {k : IntKind} (hk : k.signed = false) (op : BinOp) (m n : Nat) (hm : m < 2 ^ k.bits) (hn : n < 2 ^ k.bits) :
    bitsV op k m n = match op with
      | .and => ((m &&& n : Nat) : Int)
      | .or => ((m ||| n : Nat) : Int)
      | .xor => ((m ^^^ n : Nat) : Int)
      | _ => ((m &&& (2 ^ k.bits - 1 - n) : Nat) : Int) := by
  have hw : ∀ z : Nat, z < 2 ^ k.bits → k.wrap (z : Int) = z := fun z hz => by
    unfold IntKind.wrap
    simp only [hk]
    have : ((z : Int) % (2 ^ k.bits : Int)) = z := Int.emod_eq_of_lt (by omega) (by exact_mod_cast hz)
    simp [this]
  have h1 : (BitVec.ofNat k.bits m).toNat = m := by simp [Nat.mod_eq_of_lt hm]
  have h2 : (BitVec.ofNat k.bits n).toNat = n := by simp [Nat.mod_eq_of_lt hn]
  have h3 : k.wrap ((BitVec.ofNat k.bits m &&& ~~~BitVec.ofNat k.bits n).toNat : Int) = ((m &&& (2 ^ k.bits - 1 - n) : Nat) : Int) := by
    rw [BitVec.toNat_and, BitVec.toNat_not, h1, h2]; exact hw _ (Nat.lt_of_le_of_lt Nat.and_le_left hm)
  unfold bitsV
  simp only [ofInt_nat]
  cases op
  case and => simp only []; rw [BitVec.toNat_and, h1, h2]; exact hw _ (Nat.lt_of_le_of_lt Nat.and_le_left hm)
  case or => simp only []; rw [BitVec.toNat_or, h1, h2]; exact hw _ (Nat.or_lt_two_pow hm hn)
  case xor => simp only []; rw [BitVec.toNat_xor, h1, h2]; exact hw _ (Nat.xor_lt_two_pow hm hn)
  all_goals exact h3

end Go.Proofs.YtbbbhalmlboapaaDoor.V

/-
Bits of numbers: how many a number has; xor with ones; shifts; numbers of 64 bits with a sign.
-/
namespace Go.Proofs.YtbbbhalmlboapaaDoor.V
set_option linter.unusedSimpArgs false
set_option linter.unusedVariables false
open Go Go.RowKit

/-- How many bits a number has. -/
def bitsN (v : Nat) : Nat := if v = 0 then 0 else Nat.log2 v + 1

theorem bitsN_le (v k : Nat) : bitsN v ≤ k ↔ v < 2 ^ k := by
  unfold bitsN
  split
  · rename_i h; subst h
    simp only [Nat.zero_le, true_iff]; exact Nat.pow_pos (by decide)
  · rename_i h
    rw [← Nat.log2_lt h]; omega

theorem bitsN_zero : bitsN 0 = 0 := rfl
theorem bitsN_one : bitsN 1 = 1 := by
  have h1 := (bitsN_le 1 1).2 (by decide)
  have h2 := (bitsN_le 1 0)
  simp at h2; omega

theorem bitsN_div {v s : Nat} (h : 2 ^ s ≤ v) : bitsN v = bitsN (v / 2 ^ s) + s := by
  have key : ∀ k, bitsN (v / 2 ^ s) ≤ k ↔ bitsN v ≤ k + s := fun k => by
    rw [bitsN_le, bitsN_le, Nat.div_lt_iff_lt_mul (Nat.pow_pos (by decide)), Nat.pow_add]
  have h1 := (key (bitsN (v / 2 ^ s))).1 (Nat.le_refl _)
  have h2 : s < bitsN v := by
    rcases Nat.lt_or_ge s (bitsN v) with h2 | h2
    · exact h2
    · have := (bitsN_le v s).1 h2; omega
  have h3 := (key (bitsN v - s)).2 (by omega)
  omega

theorem bitsN_64 {v : Nat} (h : v < 18446744073709551616) : bitsN v ≤ 64 := (bitsN_le v 64).2 h

theorem bitsN_mono {u v : Nat} (h : u ≤ v) : bitsN u ≤ bitsN v := (bitsN_le u _).2 (Nat.lt_of_le_of_lt h ((bitsN_le v _).1 (Nat.le_refl _)))

theorem xor_ones {x n : Nat} (h : x < 2 ^ n) : x ^^^ (2 ^ n - 1) = 2 ^ n - 1 - x := by
  apply Nat.eq_of_testBit_eq
  intro i
  rw [Nat.testBit_xor, Nat.testBit_two_pow_sub_one, show 2 ^ n - 1 - x = 2 ^ n - (x + 1) by omega, Nat.testBit_two_pow_sub_succ h]
  by_cases hi : i < n
  · simp [hi]
  · have : x.testBit i = false := Nat.testBit_lt_two_pow (Nat.lt_of_lt_of_le h (Nat.pow_le_pow_right (by decide) (by omega)))
    simp [hi, this]

theorem wrap_i64_nat {x : Int} (h0 : -9223372036854775808 ≤ x) (h1 : x < 9223372036854775808) : IntKind.i64.wrap x = x := wrapI h0 (by omega)

theorem wrap_i64_big {x : Int} (h0 : 9223372036854775808 ≤ x) (h1 : x < 18446744073709551616) : IntKind.i64.wrap x = x - 18446744073709551616 := by
  simp [IntKind.wrap, IntKind.bits, IntKind.signed]; omega

theorem u64_i64 (x : Int) : IntKind.u64.wrap (IntKind.i64.wrap x) = IntKind.u64.wrap x := by
  simp [IntKind.wrap, IntKind.bits, IntKind.signed]; omega

theorem i64_u64 (x : Int) : IntKind.i64.wrap (IntKind.u64.wrap x) = IntKind.i64.wrap x := by
  simp [IntKind.wrap, IntKind.bits, IntKind.signed]

/-- Shifted down, without a sign. -/
theorem shr_nat (k : IntKind) (v s : Nat) (h : s ≤ k.bits) : shrV k (v : Int) (s : Int) = ((v / 2 ^ s : Nat) : Int) := by
  have h1 : min (s : Int).toNat k.bits = s := by simp; omega
  rw [shrV, h1, Int.fdiv_eq_ediv_of_nonneg _ (Int.pow_nonneg (by decide)), Int.natCast_ediv, Int.natCast_pow]
  rfl

/-- The pattern of a number with a sign. -/
theorem xor_i64 (m n : Nat) (hm : m < 18446744073709551616) (hn : n < 18446744073709551616) (a b : Int) (ha : a % 18446744073709551616 = m) (hb : b % 18446744073709551616 = n) : bitsV .xor .i64 a b = IntKind.i64.wrap ((m ^^^ n : Nat) : Int) := by
  unfold bitsV
  simp only []
  congr 1
  have e1 : (BitVec.ofInt IntKind.i64.bits a).toNat = m := by
    rw [show IntKind.i64.bits = 64 from rfl, BitVec.toNat_ofInt]
    have : ((2 ^ 64 : Nat) : Int) = 18446744073709551616 := by decide
    rw [this, ha]; rfl
  have e2 : (BitVec.ofInt IntKind.i64.bits b).toNat = n := by
    rw [show IntKind.i64.bits = 64 from rfl, BitVec.toNat_ofInt]
    have : ((2 ^ 64 : Nat) : Int) = 18446744073709551616 := by decide
    rw [this, hb]; rfl
  rw [BitVec.toNat_xor, e1, e2]

/-- Numbers as arguments. -/
theorem arg_u64 {H : Type} {enc : TypeId × Value → H} {P : Program} {r : Reach} {b0 base : Nat} {spare : Nat → Bool} {held : Bool} {t : TypeId} {v : Value} {d : DataW H} {ps : List MemPlace} {W : World} (ht : P.underlying t = some (.int .u64)) (hval : Value.okWide P W r b0 t v) (hd : DataW.Trod enc P W base spare held t v d ps) :
    ∃ n : Nat, n < 18446744073709551616 ∧ Rep [] (sizeAt W) W (.int .u64 n) v := by
  obtain ⟨n, hn, rfl, hr⟩ := arg_int ht hval hd
  simp [IntKind.has, IntKind.min, IntKind.max, IntKind.bits, IntKind.signed] at hn
  refine ⟨n.toNat, by omega, ?_⟩
  rw [show ((n.toNat : Nat) : Int) = n by omega]; exact hr

theorem arg_i64 {H : Type} {enc : TypeId × Value → H} {P : Program} {r : Reach} {b0 base : Nat} {spare : Nat → Bool} {held : Bool} {t : TypeId} {v : Value} {d : DataW H} {ps : List MemPlace} {W : World} (ht : P.underlying t = some (.int .i64)) (hval : Value.okWide P W r b0 t v) (hd : DataW.Trod enc P W base spare held t v d ps) :
    ∃ n : Int, -9223372036854775808 ≤ n ∧ n < 9223372036854775808 ∧ Rep [] (sizeAt W) W (.int .i64 n) v := by
  obtain ⟨n, hn, rfl, hr⟩ := arg_int ht hval hd
  simp [IntKind.has, IntKind.min, IntKind.max, IntKind.bits, IntKind.signed] at hn
  exact ⟨n, by omega, by omega, hr⟩

theorem arg_u8 {H : Type} {enc : TypeId × Value → H} {P : Program} {r : Reach} {b0 base : Nat} {spare : Nat → Bool} {held : Bool} {t : TypeId} {v : Value} {d : DataW H} {ps : List MemPlace} {W : World} (ht : P.underlying t = some (.int .u8)) (hval : Value.okWide P W r b0 t v) (hd : DataW.Trod enc P W base spare held t v d ps) :
    ∃ n : Nat, n < 256 ∧ Rep [] (sizeAt W) W (.int .u8 n) v := by
  obtain ⟨n, hn, rfl, hr⟩ := arg_int ht hval hd
  simp [IntKind.has, IntKind.min, IntKind.max, IntKind.bits, IntKind.signed] at hn
  refine ⟨n.toNat, by omega, ?_⟩
  rw [show ((n.toNat : Nat) : Int) = n by omega]; exact hr

theorem arg_u32 {H : Type} {enc : TypeId × Value → H} {P : Program} {r : Reach} {b0 base : Nat} {spare : Nat → Bool} {held : Bool} {t : TypeId} {v : Value} {d : DataW H} {ps : List MemPlace} {W : World} (ht : P.underlying t = some (.int .u32)) (hval : Value.okWide P W r b0 t v) (hd : DataW.Trod enc P W base spare held t v d ps) :
    ∃ n : Nat, n < 4294967296 ∧ Rep [] (sizeAt W) W (.int .u32 n) v := by
  obtain ⟨n, hn, rfl, hr⟩ := arg_int ht hval hd
  simp [IntKind.has, IntKind.min, IntKind.max, IntKind.bits, IntKind.signed] at hn
  refine ⟨n.toNat, by omega, ?_⟩
  rw [show ((n.toNat : Nat) : Int) = n by omega]; exact hr

theorem arg_bool {H : Type} {enc : TypeId × Value → H} {P : Program} {r : Reach} {b0 base : Nat} {spare : Nat → Bool} {held : Bool} {t : TypeId} {v : Value} {d : DataW H} {ps : List MemPlace} {W : World} (ht : P.underlying t = some .bool) (hval : Value.okWide P W r b0 t v) (hd : DataW.Trod enc P W base spare held t v d ps) :
    ∃ b : Bool, Rep [] (sizeAt W) W (.bool b) v := by
  obtain ⟨b, rfl, _⟩ := open_bool ht hval hd
  exact ⟨b, .bool b⟩

/-- A loop in its place, within a loop's body. -/
theorem in_loopP {T : Tab} {an : An} {C : Callees} {c c' : Code} {k : Kont} {st : St} {Q : X → St → Prop} (F : Option (X × St) → Prop) (h : ∃ x st', loopC T an C c' st = some (x, st') ∧ Q x st') (hc : c = c')
    (hq : ∀ x st', Q x st' → F (goX T an C k x st')) : F (goL T an C k (loopC T an C c st)) := by
  obtain ⟨x, st', h, hx⟩ := h
  subst hc; rw [h]; exact hq x st' hx

theorem app_own {xs ys : List UInt8} {i : Nat} {τ : List Bool} (h : τ[i]? = some true) (hl : xs.length + ys.length ≤ 1000000) (ρ : Env) (M) (B : Hp) :
    appendV 1 1 ⟨ρ, M, τ, B⟩ (.vec 1 (xs.map byteD) (.own i)) (ys.map byteD) = some (.vec 1 ((xs ++ ys).map byteD) (.own τ.length), ⟨ρ, M, τ.set i false ++ [true], B⟩) := by
  have hr : roomy (xs.length + ys.length) 1 = true := by
    simp only [roomy, nble, decide_eq_true_eq]; omega
  simp [appendV, h, hr]

theorem app_exact {ys : List UInt8} (hy : ys ≠ []) (hl : ys.length ≤ 1000000) (ρ : Env) (M) (τ : List Bool) (B : Hp) :
    appendV 1 1 ⟨ρ, M, τ, B⟩ (.vec 1 [] .exact) (ys.map byteD) = some (.vec 1 (ys.map byteD) (.own τ.length), ⟨ρ, M, τ ++ [true], B⟩) := by
  cases ys with
  | nil => exact absurd rfl hy
  | cons y r =>
    have hr : roomy (r.length + 1) 1 = true := by
      simp only [roomy, nble, decide_eq_true_eq]; simp at hl; omega
    simp [appendV, hr]

theorem bytes_global (l : List UInt8) : (l.map byteD).all D.global = true := List.all_eq_true.2 (fun x hx => by obtain ⟨b, _, rfl⟩ := List.mem_map.1 hx; rfl)
theorem bytes_plain (l : List UInt8) : (l.map byteD).all D.plain = true := List.all_eq_true.2 (fun x hx => by obtain ⟨b, _, rfl⟩ := List.mem_map.1 hx; rfl)
theorem bytes_leaf (l : List UInt8) : (l.map byteD).all D.leaf = true := List.all_eq_true.2 (fun x hx => by obtain ⟨b, _, rfl⟩ := List.mem_map.1 hx; rfl)

theorem xor_u8 (a b : UInt8) : bitsV .xor .u8 (a.toNat : Int) (b.toNat : Int) = ((a ^^^ b).toNat : Int) := by
  rw [bits_nat rfl .xor _ _ (by show _ < 2 ^ 8; exact a.toNat_lt) (by show _ < 2 ^ 8; exact b.toNat_lt), UInt8.toNat_xor]

/-- One byte more of a row that is laid byte by byte. -/
theorem setC_next (ys : List UInt8) (n i : Nat) (hl : ys.length = n) (c : UInt8) (hc : ys[i]? = some c) :
    setC ((ys.take i ++ List.replicate (n - i) 0).map byteD) i [.int .u8 c.toNat] = (ys.take (i + 1) ++ List.replicate (n - (i + 1)) 0).map byteD := by
  have hi := (List.getElem?_eq_some_iff.1 hc).1
  have h1 : (ys.take i).length = i := by simp; omega
  have h2 : (ys.take i ++ List.replicate (n - i) 0).take i = ys.take i := by rw [List.take_append_of_le_length (by omega), List.take_take]; simp
  have h3 : (ys.take i ++ List.replicate (n - i) (0 : UInt8)).drop (i + 1) = List.replicate (n - (i + 1)) 0 := by
    rw [List.drop_append, h1, List.drop_eq_nil_of_le (by omega), List.nil_append, List.drop_replicate]; congr 1; omega
  have h4 : ys.take (i + 1) = ys.take i ++ [c] := by rw [List.take_add_one, hc]; rfl
  unfold setC
  simp only [List.length_cons, List.length_nil, Nat.zero_add]
  rw [← List.map_take, ← List.map_drop, h2, h3, h4]
  simp [byteD]

theorem bytesOf_map : ∀ l : List UInt8, bytesOf (l.map byteD) = some l
  | [] => rfl
  | b :: r => by
    have := bytesOf_map r
    have h : byteOf (.int .u8 b.toNat) = some b := by simp [byteOf]
    simp_all [bytesOf, byteD]

end Go.Proofs.YtbbbhalmlboapaaDoor.V
