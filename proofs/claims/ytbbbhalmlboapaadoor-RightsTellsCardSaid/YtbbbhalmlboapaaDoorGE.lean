/-
rights.text and strings.IndexByte, by hand: as callees of the interpreter.
-/
import Derived.Shelf.Small.Strs
import Derived.Shelf.Strings.Search1
import Derived.Test.YtbbbhalmlboapaaDoorGD
namespace Go.Proofs.YtbbbhalmlboapaaDoor.V
open Go Go.RowKit
set_option linter.unusedSimpArgs false
set_option linter.unusedVariables false

variable {c : Cx} {g : Gh} {w : World}

open Go.Shelf in
def lays137_ren : Go.Shelf.Ren := ⟨fun | 137 => 62 | 217 => 85 | 266 => 95 | n => n, fun | 9 => 9 | 5 => 5 | 3 => 3 | n => n, fun | n => n⟩
open Go.Shelf in
theorem lays137 : Go.Proofs.Lays.n137 Tryd.prog lays137_ren := {
  mixed := by kernel_rfl
  f137 := Tryd.func62.trans (congrArg some (by kernel_rfl))
  f217 := Tryd.func85.trans (congrArg some (by kernel_rfl))
  f266 := Tryd.func95.trans (congrArg some (by kernel_rfl))
  t3 := Tryd.underlying3
  a3 := Tryd.isAgg3
  z3 := Tryd.sizeOf3
  v3 := Tryd.zeroValue3
  t5 := Tryd.underlying5
  a5 := Tryd.isAgg5
  z5 := Tryd.sizeOf5
  v5 := Tryd.zeroValue5
  t9 := Tryd.underlying9
  a9 := Tryd.isAgg9
  z9 := Tryd.sizeOf9
  v9 := Tryd.zeroValue9 }

theorem idx_calls (s : ByteArray) (n : Int) (w : World) : Calls Tryd.prog 62 #[.string s, .int .u8 n] w fun e w' => e = .returned (.int .i64 (Lib.indexByte s.data.toList n.toNat.toUInt8)) ∧ w' = w := Any.strings_IndexByte lays137 s n w

/-- The first place of a byte. -/
def indexV : List D → Hp → Option (D × Hp)
  | [.str s, .int .u8 n], B => some (.int .i64 (Lib.indexByte s n.toNat.toUInt8), B)
  | _, _ => .none
theorem indexV_inv {args : List D} {B : Hp} {r : D × Hp} (h : indexV args B = some r) : ∃ s n, args = [.str s, .int .u8 n] ∧ r = (.int .i64 (Lib.indexByte s n.toNat.toUInt8), B) := by
  unfold indexV at h
  split at h
  · injection h with h
    exact ⟨_, _, rfl, h.symm⟩
  · cases h

theorem repC_int {bx : List Nat} {s : Nat → Nat} {k : IntKind} {n : Int} {v : Value} {ks : List Nat} (h : RepC bx s w (.int k n) v ks) : v = .int k n ∧ ks = [] := by
  cases h with
  | one _ _ _ h => cases h with
    | clean _ _ h => cases h; exact ⟨rfl, rfl⟩
theorem repC_str {bx : List Nat} {s : Nat → Nat} {l : List UInt8} {v : Value} {ks : List Nat} (h : RepC bx s w (.str l) v ks) : ∃ b : ByteArray, v = .string b ∧ b.data.toList = l ∧ ks = [] := by
  generalize hd : D.str l = d at h
  cases h with
  | one _ _ _ h => cases h with
    | clean _ _ h =>
      cases h <;> first | (injection hd with hd; exact ⟨_, rfl, hd.symm, rfl⟩) | cases hd
    | fresh => cases hd
    | tight => cases hd
    | box => cases hd
  | agg => cases hd

theorem prim_index {C2 : Callees} (hP : c.P = Tryd.prog) (hC2 : CallOK c C2) : CallOK c (upd C2 62 indexV) := by
  refine hC2.prim ⟨Tryd.f62, by rw [hP]; exact Tryd.func62, by kernel_rfl, by kernel_rfl⟩ (fun args B r B' h w g vs ks hf ha hnd hnb => ?_)
  obtain ⟨s, n, rfl, hr⟩ := indexV_inv h
  injection hr with hr1 hr2
  subst hr1; subst hr2
  cases ha with
  | cons _ v1 k1 _ _ _ h1 h2 => cases h2 with
    | cons _ v2 k2 _ _ _ h3 h4 => cases h4 with
      | nil =>
        obtain ⟨b, rfl, rfl, rfl⟩ := repC_str h1
        obtain ⟨rfl, rfl⟩ := repC_int h3
        rw [hP]
        refine (idx_calls b n w).mono ?_
        rintro e w' ⟨rfl, rfl⟩
        exact ⟨_, rfl, g, [], hf, .one _ _ _ (.one _ _ _ (.clean _ _ (.int _ _))), List.nodup_nil, fun q hq => by cases hq⟩

open Classical in
/-- Rights as a text. -/
noncomputable def textV (C : Callees) : List D → Hp → Option (D × Hp)
  | [.int .u8 n], [] =>
    if 0 ≤ n ∧ C 19 [.int .u8 n] [] = some (.vec 1 (onesR (n.toNat % 64)) .fresh, []) ∧ ∀ i, i < 6 → C 63 [.int .u64 (2 ^ i : Nat)] [] = some (.int .i64 (i : Nat), []) then some (.str (textS (n.toNat % 64)), [])
    else .none
  | _, _ => .none
theorem textV_inv {C : Callees} {args : List D} {B : Hp} {r : D × Hp} (h : textV C args B = some r) : ∃ n, args = [.int .u8 n] ∧ B = [] ∧ 0 ≤ n ∧ C 19 [.int .u8 n] [] = some (.vec 1 (onesR (n.toNat % 64)) .fresh, []) ∧ (∀ i, i < 6 → C 63 [.int .u64 (2 ^ i : Nat)] [] = some (.int .i64 (i : Nat), [])) ∧ r = (.str (textS (n.toNat % 64)), []) := by
  unfold textV at h
  split at h
  · split at h
    · rename_i hc
      injection h with h
      exact ⟨_, rfl, rfl, hc.1, hc.2.1, hc.2.2, h.symm⟩
    · cases h
  · cases h

theorem prim_text {C C2 : Callees} (hP : c.P = Tryd.prog) (hC : CallOK c C) (hC2 : CallOK c C2) : CallOK c (upd C2 61 (textV C)) := by
  refine hC2.prim ⟨Tryd.f61, by rw [hP]; exact Tryd.func61, by kernel_rfl, by kernel_rfl⟩ (fun args B r B' h w g vs ks hf ha hnd hnb => ?_)
  obtain ⟨n, rfl, rfl, hn, hli, hlo, hr⟩ := textV_inv h
  injection hr with hr1 hr2
  subst hr1; subst hr2
  have hbx : g.bx = [] := List.length_eq_zero_iff.1 hf.nB.symm
  cases ha with
  | cons _ v1 k1 _ _ _ h1 h2 => cases h2 with
    | nil =>
      obtain ⟨rfl, rfl⟩ := repC_int h1
      obtain ⟨n, rfl⟩ : ∃ m : Nat, n = m := ⟨n.toNat, by omega⟩
      rw [Int.toNat_natCast] at hli ⊢
      refine (text_calls hP hC hf n (n % 64) hli hlo).mono ?_
      rintro e w' ⟨rfl, hl⟩
      refine ⟨_, rfl, { g with s := g.s }, [], hf.scratchN g.s hl.heap hl.size hl.os hl.tape hl.output hl.same hl.zero, ?_, List.nodup_nil, fun q hq => by cases hq⟩
      have := Rep.str (bx := g.bx) (s := g.s) (w := w') ⟨(textS (n % 64)).toArray⟩
      exact .one _ _ _ (.one _ _ _ (.clean _ _ this))

end Go.Proofs.YtbbbhalmlboapaaDoor.V
