/-
Layer 8, in plain: cells, as loads.
-/
import Derived.Test.YtfkhijjabkhmmaaDoorQA
namespace Go.Proofs.YtfkhijjabkhmmaaDoor.V
open Go Go.RowKit
set_option linter.unusedSimpArgs false
set_option linter.unusedVariables false

structure Ce where
  k : Ky
  v : Ky
  g : Int
  p : Int
  deriving DecidableEq, Inhabited

def ceD (c : Ce) : D := .agg [.str c.k, .str c.v, .int .i64 c.g, .int .i64 c.p]
def okC (c : Ce) : Bool := decide (1 ≤ c.k.length) && decide (c.k.length ≤ 40) && decide (0 ≤ c.g) && decide (c.g ≤ 2048) && (if c.g > 64 then decide (c.v = []) && decide (2 ≤ c.p) && decide (c.p ≤ 1023) else decide ((c.v.length : Int) = c.g) && decide (c.p = 0))
theorem okC_iff (c : Ce) : okC c = true ↔ 1 ≤ c.k.length ∧ c.k.length ≤ 40 ∧ 0 ≤ c.g ∧ c.g ≤ 2048 ∧ (c.g > 64 → c.v = [] ∧ 2 ≤ c.p ∧ c.p ≤ 1023) ∧ (¬ c.g > 64 → (c.v.length : Int) = c.g ∧ c.p = 0) := by
  unfold okC
  by_cases h : c.g > 64 <;> simp [h, and_assoc]

def lastB (c : Ce) : List UInt8 := if c.g > 64 then bes c.p.toNat 2 else c.v
def oneC (c : Ce) : List UInt8 := vputS c.k.length ++ c.k ++ vputS c.g.toNat ++ lastB c
def cellS (q : List UInt8) : Option (Ce × List UInt8) := match bytesP (some q) 40 with
  | (some q1, k) => match numS q1 2048 with
    | (some q2, g) => if 64 < g then (match q2 with
        | a :: b :: r => some (⟨k, [], (g : Nat), ((a.toNat * 256 + b.toNat : Nat) : Int)⟩, r)
        | _ => .none) else if g ≤ q2.length then some (⟨k, q2.take g, (g : Nat), 0⟩, q2.drop g) else .none
    | (.none, _) => .none
  | (.none, _) => .none
def ordC (last : Option Ky) (k : Ky) : Bool := match last with
  | .none => true
  | some x => lt x k
def ascL : Option Ky → List Ce → Bool
  | _, [] => true
  | last, c :: l => ordC last c.k && ascL (some c.k) l
def decN : Nat → List UInt8 → Option Ky → Option (List Ce)
  | 0, q, _ => if q = [] then some [] else .none
  | n + 1, q, last => match cellS q with
    | some (c, r) => if okC c = true ∧ ordC last c.k = true then (decN n r (some c.k)).map (c :: ·) else .none
    | .none => .none
def decC (l : List UInt8) : Option (List Ce) := if 504 < l.length then .none else match numS l 504 with
  | (some q, n) => decN n q .none
  | (.none, _) => .none
def flatC (l : List Ce) : List UInt8 := l.flatMap oneC
def encB (l : List Ce) : List UInt8 := vputS l.length ++ flatC l

theorem vput_0 : vputS 0 = [0] := by rw [vputS_small (by decide)]; rfl
theorem cell_pre {k : Ky} (hk : k.length ≤ 40) (rest : List UInt8) : cellS (vputS k.length ++ k ++ rest) = match numS rest 2048 with
    | (some q2, g) => if 64 < g then (match q2 with
        | a :: b :: r => some (⟨k, [], (g : Nat), ((a.toNat * 256 + b.toNat : Nat) : Int)⟩, r)
        | _ => .none) else if g ≤ q2.length then some (⟨k, q2.take g, (g : Nat), 0⟩, q2.drop g) else .none
    | (.none, _) => .none := by
  unfold cellS
  rw [bytes_put hk]

theorem cell_one {c : Ce} (h : okC c = true) (rest : List UInt8) : cellS (oneC c ++ rest) = some (c, rest) := by
  obtain ⟨h1, h2, h3, h4, h5, h6⟩ := (okC_iff c).1 h
  unfold oneC
  rw [List.append_assoc, List.append_assoc, cell_pre h2, numS_put _ (by omega) (by omega)]
  unfold lastB
  obtain ⟨k, v, g, p⟩ := c
  simp only at *
  by_cases hg : g > 64
  · obtain ⟨rfl, h7, h8⟩ := h5 hg
    simp only [hg, if_true, bes_2, List.cons_append, List.nil_append]
    rw [if_pos (by omega), num2 (by omega) (by omega)]
    simp; omega
  · obtain ⟨h7, rfl⟩ := h6 hg
    simp only [hg, if_false]
    rw [if_neg (by omega), if_pos (by rw [List.length_append]; omega)]
    have e : g.toNat = v.length := by omega
    rw [e]
    simp; omega

theorem cell_cut {c : Ce} (h : okC c = true) : cellS ((oneC c).take ((oneC c).length - 1)) = .none := by
  obtain ⟨h1, h2, h3, h4, h5, h6⟩ := (okC_iff c).1 h
  unfold oneC lastB
  obtain ⟨k, v, g, p⟩ := c
  simp only at *
  by_cases hg : g > 64
  · simp only [hg, if_true, bes_2]
    rw [take_pre (by simp), List.append_assoc, cell_pre h2, numS_put _ (by omega) (by omega)]
    simp only [List.length_cons, List.length_nil]
    rw [if_pos (by omega)]
    rfl
  · obtain ⟨h7, rfl⟩ := h6 hg
    simp only [hg, if_false]
    cases v with
    | nil =>
      have e : g.toNat = 0 := by simp at h7; omega
      rw [List.append_nil, e, vput_0, take_pre (by simp), cell_pre h2]
      rfl
    | cons x v =>
      rw [take_pre (by simp), List.append_assoc, cell_pre h2, numS_put _ (by omega) (by omega)]
      simp only
      rw [if_neg (by omega), if_neg]
      rw [List.length_take]
      simp at h7 ⊢
      omega

theorem dec_enc : ∀ (l : List Ce) (last : Option Ky), (∀ c, c ∈ l → okC c = true) → ascL last l = true → decN l.length (flatC l) last = some l
  | [], last, _, _ => rfl
  | c :: l, last, h, ha => by
    rw [ascL, Bool.and_eq_true] at ha
    have ih := dec_enc l (some c.k) (fun x hx => h x (by simp [hx])) ha.2
    show decN (l.length + 1) (oneC c ++ flatC l) last = _
    rw [decN, cell_one (h c (by simp))]
    simp only
    rw [if_pos ⟨h c (by simp), ha.1⟩, ih]; rfl
theorem dec_more : ∀ (l : List Ce) (last : Option Ky), (∀ c, c ∈ l → okC c = true) → ascL last l = true → decN l.length (flatC l ++ [0]) last = .none
  | [], last, _, _ => rfl
  | c :: l, last, h, ha => by
    rw [ascL, Bool.and_eq_true] at ha
    have ih := dec_more l (some c.k) (fun x hx => h x (by simp [hx])) ha.2
    show decN (l.length + 1) ((oneC c ++ flatC l) ++ [0]) last = _
    rw [List.append_assoc, decN, cell_one (h c (by simp))]
    simp only
    rw [ih]
    split <;> rfl
theorem one_pos {c : Ce} : 0 < (oneC c).length := by
  unfold oneC
  have := vputS_pos c.k.length
  simp only [List.length_append]; omega
theorem dec_cut : ∀ (l : List Ce) (last : Option Ky), l ≠ [] → (∀ c, c ∈ l → okC c = true) → decN l.length ((flatC l).take ((flatC l).length - 1)) last = .none
  | [], last, h, _ => absurd rfl h
  | c :: l, last, _, h => by
    show decN (l.length + 1) ((oneC c ++ flatC l).take ((oneC c ++ flatC l).length - 1)) last = _
    cases l with
    | nil =>
      have e : oneC c ++ flatC [] = oneC c := by simp [flatC]
      rw [e, decN, cell_cut (h c (by simp))]
    | cons d l =>
      have hpos : 0 < (flatC (d :: l)).length := by
        have := one_pos (c := d)
        simp [flatC]; omega
      have ih := dec_cut (d :: l) (some c.k) (by simp) (fun x hx => h x (by simp [hx]))
      rw [take_pre hpos, decN, cell_one (h c (by simp))]
      simp only
      rw [ih]
      split <;> rfl

theorem decC_enc {l : List Ce} (hn : l.length ≤ 504) (h : ∀ c, c ∈ l → okC c = true) (ha : ascL .none l = true) (hs : (encB l).length ≤ 504) : decC (encB l) = some l := by
  unfold decC
  rw [if_neg (by omega)]
  unfold encB
  rw [numS_put _ (by omega) hn]
  exact dec_enc l .none h ha
theorem decC_more {l : List Ce} (hn : l.length ≤ 504) (h : ∀ c, c ∈ l → okC c = true) (ha : ascL .none l = true) : decC (encB l ++ [0]) = .none := by
  unfold decC
  split
  · rfl
  · unfold encB
    rw [List.append_assoc, numS_put _ (by omega) hn]
    exact dec_more l .none h ha
theorem decC_cut {l : List Ce} (hn : l.length ≤ 504) (h : ∀ c, c ∈ l → okC c = true) : decC ((encB l).take ((encB l).length - 1)) = .none := by
  unfold decC
  split
  · rfl
  · cases l with
    | nil =>
      have e : encB [] = [0] := by unfold encB; rw [List.length_nil, vput_0]; rfl
      rw [e]; rfl
    | cons c l =>
      have hpos : 0 < (flatC (c :: l)).length := by
        have := one_pos (c := c)
        simp [flatC]; omega
      unfold encB
      rw [take_pre hpos, numS_put _ (by omega) hn]
      exact dec_cut (c :: l) .none (by simp) h

/-- How many bytes a cell takes. -/
def sizeC (k : Ky) (g : Int) : Nat := (vputS k.length).length + k.length + (vputS g.toNat).length + (if g > 64 then 2 else g.toNat)
theorem one_len {c : Ce} (h : okC c = true) : (oneC c).length = sizeC c.k c.g := by
  obtain ⟨h1, h2, h3, h4, h5, h6⟩ := (okC_iff c).1 h
  unfold oneC lastB sizeC
  by_cases hg : c.g > 64
  · simp only [hg, if_true, List.length_append, bes_length]
  · simp only [hg, if_false, List.length_append]
    have := (h6 hg).1
    omega
theorem size_le {c : Ce} (h : okC c = true) : sizeC c.k c.g ≤ 130 := by
  obtain ⟨h1, h2, h3, h4, h5, h6⟩ := (okC_iff c).1 h
  unfold sizeC
  have := vputS_len10 (v := c.k.length) (by omega)
  have := vputS_len10 (v := c.g.toNat) (by omega)
  split <;> omega

/-- The keys ascend. -/
theorem asc_sort : ∀ (l : List Ce) (last : Option Ky), ascL last l = true → sortK (l.map Ce.k) ∧ ∀ x, last = some x → ∀ i, i < l.length → lt x ((l.map Ce.k).getD i []) = true
  | [], last, _ => ⟨fun i j hij hj => by simp at hj, fun x _ i hi => by simp at hi⟩
  | c :: l, last, ha => by
    rw [ascL, Bool.and_eq_true] at ha
    obtain ⟨h1, h2⟩ := asc_sort l (some c.k) ha.2
    refine ⟨fun i j hij hj => ?_, fun x hx i hi => ?_⟩
    · cases j with
      | zero => omega
      | succ j =>
        cases i with
        | zero => exact h2 c.k rfl j (by simpa using hj)
        | succ i => exact h1 i j (by omega) (by simpa using hj)
    · subst hx
      have h3 : lt x c.k = true := ha.1
      cases i with
      | zero => exact h3
      | succ i => exact lt_trans h3 (h2 c.k rfl i (by simpa using hi))

/-- What comes out of a load may be, and ascends. -/
theorem decN_ok : ∀ (n : Nat) (q : List UInt8) (last : Option Ky) (l : List Ce), decN n q last = some l → l.length = n ∧ (∀ c, c ∈ l → okC c = true) ∧ ascL last l = true
  | 0, q, last, l, h => by
    rw [decN] at h
    split at h
    · injection h with h; subst h; exact ⟨rfl, (fun c hc => by cases hc), rfl⟩
    · cases h
  | n + 1, q, last, l, h => by
    rw [decN] at h
    split at h
    · rename_i c r hc
      split at h
      · rename_i ho
        cases hd : decN n r (some c.k) with
        | none => rw [hd] at h; cases h
        | some l2 =>
          rw [hd] at h
          injection h with h
          subst h
          obtain ⟨h1, h2, h3⟩ := decN_ok n r _ l2 hd
          refine ⟨by simp [h1], fun x hx => ?_, by rw [ascL, ho.2, h3]; rfl⟩
          rcases List.mem_cons.1 hx with rfl | hx
          · exact ho.1
          · exact h2 x hx
      · cases h
    · cases h
theorem decC_ok {b : List UInt8} {l : List Ce} (h : decC b = some l) : l.length ≤ 504 ∧ (∀ c, c ∈ l → okC c = true) ∧ ascL .none l = true := by
  unfold decC at h
  split at h
  · cases h
  · split at h
    · rename_i q n hn
      have hb := (numS_bnd b 504).1
      rw [hn] at hb
      obtain ⟨h1, h2, h3⟩ := decN_ok n q _ l h
      exact ⟨by omega, h2, h3⟩
    · cases h

end Go.Proofs.YtfkhijjabkhmmaaDoor.V
