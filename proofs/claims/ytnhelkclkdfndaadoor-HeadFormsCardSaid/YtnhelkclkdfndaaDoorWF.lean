/-
Layer 5: pages, in plain.
-/
import Derived.Test.YtnhelkclkdfndaaDoorWE
namespace Go.Proofs.YtnhelkclkdfndaaDoor.V
open Go Go.RowKit
set_option linter.unusedSimpArgs false
set_option linter.unusedVariables false

theorem byteAt_toNat (s i : Nat) : (byteAt s i).toNat = s / 256 ^ i % 256 := by
  unfold byteAt
  rw [UInt8.toNat_ofNat']

theorem be4_bes {s : Nat} (h : s < 4294967296) : be4 (byteAt s 3).toNat (byteAt s 2).toNat (byteAt s 1).toNat (byteAt s 0).toNat = s := by
  simp only [byteAt_toNat, be4, Nat.reducePow]
  omega

theorem isL_pag (k : UInt8) (l : List UInt8) : isL (pag k l) = true := by
  unfold pag
  rw [bes4, isL_four, be4_bes (more_lt _ _), beq_self_eq_true]

theorem pag_eq (k : UInt8) (l : List UInt8) : pag k l = k :: 0 :: byteAt l.length 1 :: byteAt l.length 0 :: (l ++ (zers (504 - l.length) ++ bes (moreS 0 (frt k l)) 4)) := by
  show hdr k l.length ++ l ++ zers (504 - l.length) ++ _ = _
  unfold hdr
  rw [bes2]
  simp

theorem bO_pag0 (k : UInt8) (l : List UInt8) : bO (pag k l) 0 = k := by rw [pag_eq]; rfl
theorem bO_pag1 (k : UInt8) (l : List UInt8) : bO (pag k l) 1 = 0 := by rw [pag_eq]; rfl
theorem nO_pag (k : UInt8) {l : List UInt8} (h : l.length ≤ 504) : nO (pag k l) = l.length := by
  unfold nO
  have h2 : bO (pag k l) 2 = byteAt l.length 1 := by rw [pag_eq]; rfl
  have h3 : bO (pag k l) 3 = byteAt l.length 0 := by rw [pag_eq]; rfl
  rw [h2, h3, byteAt_toNat, byteAt_toNat]
  simp only [Nat.reducePow]
  omega

theorem blank_zers (n : Nat) : blankS (zers n) = true := by
  unfold blankS zers
  rw [List.all_eq_true]
  intro x hx
  rw [(List.mem_replicate.1 hx).2]; rfl

theorem pag_take508 {k : UInt8} {l : List UInt8} (h : l.length ≤ 504) : (pag k l).take 508 = frt k l := List.take_left' (frt_len h)
theorem frt_drop {k : UInt8} {l : List UInt8} : (frt k l).drop (4 + l.length) = zers (504 - l.length) := by
  unfold frt
  exact List.drop_left' (by rw [List.length_append, hdr_len])
theorem pag_load (k : UInt8) (l : List UInt8) : ((pag k l).take (4 + l.length)).drop 4 = l := by
  rw [pag_eq, show 4 + l.length = l.length + 4 by omega]
  simp

theorem okO_pag {k : UInt8} {l : List UInt8} (hk : kindS k.toNat = true) (h : l.length ≤ 504) : okO (pag k l) = true := by
  unfold okO
  rw [bO_pag0, bO_pag1, nO_pag k h, hk, pag_take508 h, frt_drop, blank_zers, decide_eq_true h]; rfl
theorem ldO_pag (k : UInt8) {l : List UInt8} (h : l.length ≤ 504) : ldO (pag k l) = l := by
  unfold ldO
  rw [nO_pag k h, pag_load]

theorem pag_inj {p q : UInt8} {a b : List UInt8} (ha : a.length ≤ 504) (hb : b.length ≤ 504) (h : pag p a = pag q b) : p = q ∧ a = b :=
  ⟨by rw [← bO_pag0 p a, h, bO_pag0], by rw [← ldO_pag p ha, h, ldO_pag q hb]⟩

theorem pag_blank {k : UInt8} (hk : kindS k.toNat = true) (l : List UInt8) : blankS (pag k l) = false := by
  rw [Bool.eq_false_iff]
  intro h
  have h0 := blank_get.1 h 0 k (by rw [pag_eq]; rfl)
  rw [h0] at hk; cases hk

/-! ### A bit turned -/
def tbit (c : UInt8) (m : Nat) : UInt8 := UInt8.ofNat (c.toNat ^^^ 2 ^ m)
theorem tbit_nat {m : Nat} (h : m < 8) (c : UInt8) : (tbit c m).toNat = c.toNat ^^^ 2 ^ m := by
  unfold tbit
  rw [UInt8.toNat_ofNat', Nat.mod_eq_of_lt (Nat.xor_lt_two_pow (n := 8) c.toNat_lt (Nat.pow_lt_pow_right (by decide) h))]
theorem tbit_ne {m : Nat} (h : m < 8) (c : UInt8) : tbit c m ≠ c := fun e => by
  have h1 := tbit_nat h c
  rw [e] at h1
  have h2 : (2 ^ m) ^^^ c.toNat = 0 ^^^ c.toNat := by rw [Nat.zero_xor, Nat.xor_comm]; exact h1.symm
  have := xor_right_cancel h2
  have := Nat.two_pow_pos m
  omega

theorem set_at {l : List UInt8} {i : Nat} {c : UInt8} (h : l[i]? = some c) (d : UInt8) : ∃ x y, l = x ++ c :: y ∧ l.set i d = x ++ d :: y := by
  have hlt := lt_of_get h
  refine ⟨l.take i, l.drop (i + 1), ?_, List.set_eq_take_append_cons_drop.trans (if_pos hlt)⟩
  have h1 := List.take_append_drop i l
  rw [List.drop_eq_getElem_cons hlt] at h1
  rw [List.getElem?_eq_getElem hlt] at h
  injection h with h
  rw [h] at h1
  exact h1.symm

theorem isL_turned {k : UInt8} {l : List UInt8} (h : l.length ≤ 504) {i : Nat} {c d : UInt8} (hi : (pag k l)[i]? = some c) (hd : d ≠ c) : isL ((pag k l).set i d) = false := by
  have hf := frt_len (k := k) h
  have hs := more_lt 0 (frt k l)
  unfold pag at hi ⊢
  rw [bes4] at hi ⊢
  rcases Nat.lt_or_ge i 508 with h1 | h1
  · rw [List.getElem?_append_left (by omega)] at hi
    rw [List.set_append_left _ _ (by omega), isL_four, be4_bes hs, beq_eq_false_iff_ne]
    intro he
    obtain ⟨x, y, e1, e2⟩ := set_at hi d
    rw [e1] at he e2
    rw [e2] at he
    exact hd (more_turned x y c d (by decide) he).symm
  · rw [List.getElem?_append_right (by omega)] at hi
    rw [List.set_append_right _ _ (by omega)]
    rw [hf] at hi ⊢
    generalize i - 508 = j at hi
    have hb := be4_bes hs
    have hne : d.toNat ≠ c.toNat := fun e => hd (UInt8.toNat_inj.1 e)
    have h3 := (byteAt (moreS 0 (frt k l)) 3).toNat_lt
    have h2 := (byteAt (moreS 0 (frt k l)) 2).toNat_lt
    have h1 := (byteAt (moreS 0 (frt k l)) 1).toNat_lt
    have h0 := (byteAt (moreS 0 (frt k l)) 0).toNat_lt
    have hdl := d.toNat_lt
    match j, hi with
    | 0, hi => injection hi with hi; subst hi; rw [List.set_cons_zero, isL_four, beq_eq_false_iff_ne]; unfold be4 at hb ⊢; omega
    | 1, hi => injection hi with hi; subst hi; rw [List.set_cons_succ, List.set_cons_zero, isL_four, beq_eq_false_iff_ne]; unfold be4 at hb ⊢; omega
    | 2, hi => injection hi with hi; subst hi; rw [List.set_cons_succ, List.set_cons_succ, List.set_cons_zero, isL_four, beq_eq_false_iff_ne]; unfold be4 at hb ⊢; omega
    | 3, hi => injection hi with hi; subst hi; rw [List.set_cons_succ, List.set_cons_succ, List.set_cons_succ, List.set_cons_zero, isL_four, beq_eq_false_iff_ne]; unfold be4 at hb ⊢; omega
    | j + 4, hi => simp at hi

theorem isL_zeros : isL (zers 512) = false := of_decide_eq_true (by kernel_rfl)

/-- The page of any load: none, or one. -/
def sealP (k : UInt8) (l : List UInt8) : List UInt8 := if kindS k.toNat = true ∧ l.length ≤ 504 then pag k l else []
def sealE (k : UInt8) (l : List UInt8) : Nat := if kindS k.toNat = true then (if l.length ≤ 504 then 0 else 5) else 1

end Go.Proofs.YtnhelkclkdfndaaDoor.V
