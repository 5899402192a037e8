/-
Layer 19, in plain: heads, as loads; the newest one.
-/
import Derived.Test.YtnhelkclkdfndaaDoorPA
import Derived.Test.YtnhelkclkdfndaaDoorWF
namespace Go.Proofs.YtnhelkclkdfndaaDoor.V
open Go Go.RowKit
set_option linter.unusedSimpArgs false
set_option linter.unusedVariables false

structure Hd where
  a : Nat
  b : Nat
  c : Nat
  r : Int
  e : Int
  deriving DecidableEq

abbrev big : Nat := 4611686018427387904
def Hd.D (h : Hd) : D := .agg [.int .u64 h.a, .int .u64 h.b, .int .u64 h.c, .int .i64 h.r, .int .i64 h.e]
def Hd.may (h : Hd) : Bool := decide (h.a ≤ big) && decide (h.b ≤ big) && decide (h.c ≤ big) && decide (0 ≤ h.e) && decide (h.e ≤ 4096) && (if h.e = 0 then decide (h.r = 0) else decide (2 ≤ h.r) && decide (h.r ≤ 1023))
def hd0 : Hd := ⟨0, 0, 0, 0, 0⟩

/-- Five numbers, one behind the other. -/
def five (l : List UInt8) (m4 m5 : Nat) : RS × Nat × Nat × Nat × Nat × Nat :=
  let s1 := numP (some l) big
  let s2 := numP s1.1 big
  let s3 := numP s2.1 big
  let s4 := numP s3.1 m4
  let s5 := numP s4.1 m5
  (s5.1, s1.2, s2.2, s3.2, s4.2, s5.2)
def fiveH (x : RS × Nat × Nat × Nat × Nat × Nat) : Hd := ⟨x.2.1, x.2.2.1, x.2.2.2.1, (x.2.2.2.2.1 : Nat), (x.2.2.2.2.2 : Nat)⟩

/-- A load's head. -/
def loadH (l : List UInt8) : Option Hd := if (five l 1024 4096).1 = some [] ∧ (fiveH (five l 1024 4096)).may = true then some (fiveH (five l 1024 4096)) else .none

theorem numS_sub {l : List UInt8} {m M : Nat} (h : m ≤ M) : numS l m = if (numS l M).2 ≤ m then numS l M else (.none, 0) := by
  unfold numS
  by_cases h0 : (vgetS l 0 0).2.2 = 0
  · by_cases h1 : (vgetS l 0 0).1 ≤ m
    · have h2 : (vgetS l 0 0).1 ≤ M := by omega
      simp [h0, h1, h2]
    · by_cases h2 : (vgetS l 0 0).1 ≤ M
      · simp [h0, h1, h2]
      · simp [h0, h1, h2]
  · simp [h0]

theorem numP_sub {s : RS} {m M : Nat} (h : m ≤ M) : numP s m = if (numP s M).2 ≤ m then numP s M else (.none, 0) := by
  cases s with
  | none => simp [numP]
  | some l => exact numS_sub h

theorem numP_none (m : Nat) : numP .none m = (.none, 0) := rfl

/-- The document reads all of them as great as the greatest. -/
theorem loadH_ref (l : List UInt8) : loadH l = if (five l big big).1 = some [] ∧ (five l big big).2.2.2.2.1 ≤ 1023 ∧ (five l big big).2.2.2.2.2 ≤ 4096 ∧ (fiveH (five l big big)).may = true then some (fiveH (five l big big)) else .none := by
  unfold loadH five fiveH
  simp only
  generalize (numP (some l) big).2 = a1
  generalize (numP (some l) big).1 = s1
  generalize (numP s1 big).2 = a2
  generalize (numP s1 big).1 = s2
  generalize (numP s2 big).2 = a3
  generalize (numP s2 big).1 = s3
  rw [numP_sub (s := s3) (m := 1024) (M := big) (by decide)]
  by_cases h4 : (numP s3 big).2 ≤ 1024
  · rw [if_pos h4]
    generalize (numP s3 big).2 = a4 at h4
    generalize (numP s3 big).1 = s4
    rw [numP_sub (s := s4) (m := 4096) (M := big) (by decide)]
    by_cases h5 : (numP s4 big).2 ≤ 4096
    · rw [if_pos h5]
      by_cases h6 : a4 ≤ 1023
      · simp [h6, h5]
      · have ha : a4 = 1024 := by omega
        subst ha
        have h7 : (Hd.mk a1 a2 a3 ((1024 : Nat) : Int) ((numP s4 big).2 : Nat)).may = false := by
          unfold Hd.may
          have e1 : ¬ (((1024 : Nat) : Int) = 0) := by decide
          have e2 : decide (((1024 : Nat) : Int) ≤ 1023) = false := by decide
          simp only [e1, e2, Bool.and_false, decide_false, if_false]
          split <;> simp
        rw [h7]
        simp
    · rw [if_neg h5]
      simp [h5]
  · rw [if_neg h4]
    have h6 : ¬ (numP s3 big).2 ≤ 1023 := by omega
    simp [numP_none, h6]

/-! ### A head's load -/
def headL (h : Hd) : List UInt8 := vputS h.a ++ (vputS h.b ++ (vputS h.c ++ (vputS h.r.toNat ++ vputS h.e.toNat)))

theorem may_parts {h : Hd} (hm : h.may = true) : h.a ≤ big ∧ h.b ≤ big ∧ h.c ≤ big ∧ 0 ≤ h.e ∧ h.e ≤ 4096 ∧ 0 ≤ h.r ∧ h.r ≤ 1023 := by
  unfold Hd.may at hm
  simp only [Bool.and_eq_true, decide_eq_true_eq] at hm
  obtain ⟨⟨⟨⟨⟨h1, h2⟩, h3⟩, h4⟩, h5⟩, h6⟩ := hm
  refine ⟨h1, h2, h3, h4, h5, ?_⟩
  split at h6
  · have := of_decide_eq_true h6; omega
  · simp only [Bool.and_eq_true, decide_eq_true_eq] at h6; omega

theorem headL_len {h : Hd} (hm : h.may = true) : (headL h).length ≤ 50 := by
  obtain ⟨h1, h2, h3, h4, h5, h6, h7⟩ := may_parts hm
  unfold headL
  simp only [List.length_append]
  unfold big at *
  have := vputS_len10 (v := h.a) (by omega)
  have := vputS_len10 (v := h.b) (by omega)
  have := vputS_len10 (v := h.c) (by omega)
  have := vputS_len10 (v := h.r.toNat) (by omega)
  have := vputS_len10 (v := h.e.toNat) (by omega)
  omega

theorem loadH_head {h : Hd} (hm : h.may = true) : loadH (headL h) = some h := by
  obtain ⟨h1, h2, h3, h4, h5, h6, h7⟩ := may_parts hm
  have hf : five (headL h) 1024 4096 = (some [], h.a, h.b, h.c, h.r.toNat, h.e.toNat) := by
    unfold five headL
    unfold big at *
    have e5 := numS_put (v := h.e.toNat) (m := 4096) [] (by omega) (by omega)
    rw [List.append_nil] at e5
    simp only [numP]
    rw [numS_put _ (by omega) h1]
    simp only
    rw [numS_put _ (by omega) h2]
    simp only
    rw [numS_put _ (by omega) h3]
    simp only
    rw [numS_put _ (by omega) (by omega)]
    simp only
    rw [e5]
  have hh : fiveH (five (headL h) 1024 4096) = h := by
    rw [hf]
    unfold fiveH
    cases h
    simp only at *
    simp only [Hd.mk.injEq, true_and]
    omega
  unfold loadH
  rw [hh, hf]
  simp [hm]

/-! ### Pages -/
/-- A head's page, or none: the load, and the error's number. -/
def encH (h : Hd) : List UInt8 := pag 4 (headL h)
def decE (l : List UInt8) : Nat := if l.length = 512 then (if isL l = true then (if okO l = true then (if bO l 0 = 4 then (match loadH (ldO l) with | some _ => 0 | .none => 3) else 3) else 3) else 4) else 3
def decH (l : List UInt8) : Hd := if decE l = 0 then (loadH (ldO l)).getD hd0 else hd0

theorem encH_len {h : Hd} (hm : h.may = true) : (encH h).length = 512 := pag_len (by have := headL_len hm; omega)
theorem dec_enc {h : Hd} (hm : h.may = true) : decE (encH h) = 0 ∧ decH (encH h) = h := by
  have hl := headL_len hm
  have h1 : decE (encH h) = 0 := by
    unfold decE encH
    rw [if_pos (pag_len (by omega)), isL_pag, if_pos rfl, okO_pag (by decide) (by omega), if_pos rfl, bO_pag0, if_pos rfl, ldO_pag _ (by omega), loadH_head hm]
  refine ⟨h1, ?_⟩
  unfold decH
  rw [if_pos h1]
  unfold encH
  rw [ldO_pag _ (by omega), loadH_head hm]; rfl
theorem dec_bad {l : List UInt8} (h : decE l ≠ 0) : decH l = hd0 := if_neg h
theorem dec_may {l : List UInt8} (h : decE l = 0) : (decH l).may = true := by
  unfold decH
  rw [if_pos h]
  unfold decE at h
  split at h <;> try cases h
  split at h <;> try cases h
  split at h <;> try cases h
  split at h <;> try cases h
  split at h <;> try cases h
  rename_i x hx
  rw [hx]
  unfold loadH at hx
  split at hx
  · rename_i hc
    injection hx with hx
    subst hx
    exact hc.2
  · cases hx
theorem hd0_may : hd0.may = true := rfl
theorem decH_may (l : List UInt8) : (decH l).may = true := by
  by_cases h : decE l = 0
  · exact dec_may h
  · rw [dec_bad h]; rfl
theorem dec_turned {h : Hd} (hm : h.may = true) {i : Nat} {c d : UInt8} (hi : (encH h)[i]? = some c) (hd : d ≠ c) : decE ((encH h).set i d) = 4 := by
  have hl := headL_len hm
  have h1 := isL_turned (k := 4) (l := headL h) (by omega) hi hd
  have h2 : ((encH h).set i d).length = 512 := by rw [List.length_set, encH_len hm]
  unfold decE
  rw [if_pos h2]
  unfold encH
  rw [h1]; rfl

/-! ### The newest one -/
/-- Is there a head at its place? -/
def okP (l : List UInt8) (i : Nat) : Bool := decide (decE l = 0) && decide ((decH l).a % 2 = i)
def pickE (a b : List UInt8) : Nat := if okP a 0 = true ∨ okP b 1 = true then 0 else 16
def pickH (a b : List UInt8) : Hd := if okP a 0 = true then (if okP b 1 = true then (if (decH b).a < (decH a).a then decH a else decH b) else decH a) else (if okP b 1 = true then decH b else hd0)

end Go.Proofs.YtnhelkclkdfndaaDoor.V
