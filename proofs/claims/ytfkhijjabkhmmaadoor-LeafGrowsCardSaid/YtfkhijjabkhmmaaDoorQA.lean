/-
Layer 9, in plain: forks, as loads.
-/
import Derived.Test.YtfkhijjabkhmmaaDoorPC
import Derived.Test.YtfkhijjabkhmmaaDoorIC
import Derived.Test.YtfkhijjabkhmmaaDoorKA
namespace Go.Proofs.YtfkhijjabkhmmaaDoor.V
open Go Go.RowKit
set_option linter.unusedSimpArgs false
set_option linter.unusedVariables false

abbrev Ky := List UInt8

def allB : Nat → (Nat → Bool) → Bool
  | 0, _ => true
  | n + 1, f => allB n f && f n
theorem allB_iff {f : Nat → Bool} : ∀ {n : Nat}, allB n f = true ↔ ∀ i, i < n → f i = true
  | 0 => by simp [allB]
  | n + 1 => by
    rw [allB, Bool.and_eq_true, allB_iff]
    constructor
    · rintro ⟨h1, h2⟩ i hi
      rcases Nat.lt_or_ge i n with h | h
      · exact h1 i h
      · obtain rfl : i = n := by omega
        exact h2
    · intro h
      exact ⟨fun i hi => h i (by omega), h n (by omega)⟩
theorem allB_no {f : Nat → Bool} {n i : Nat} (hi : i < n) (h : f i = false) : allB n f = false := by
  rw [Bool.eq_false_iff]
  intro h2
  rw [allB_iff.1 h2 i hi] at h; cases h
theorem allB_ext {f g : Nat → Bool} : ∀ {n : Nat}, (∀ i, i < n → f i = g i) → allB n f = allB n g
  | 0, _ => rfl
  | n + 1, h => by rw [allB, allB, allB_ext (fun i hi => h i (by omega)), h n (by omega)]

/-- A key that may be, and is behind the one ahead. -/
def kP (ks : List Ky) (i : Nat) : Bool := decide (1 ≤ (ks.getD i []).length) && decide ((ks.getD i []).length ≤ 40) && (decide (i = 0) || lt (ks.getD (i - 1) []) (ks.getD i []))
/-- A page's number, and none of those ahead. -/
def nP (ns : List Int) (i : Nat) : Bool := decide (2 ≤ ns.getD i 0) && decide (ns.getD i 0 ≤ 1023) && allB i (fun j => !decide (ns.getD j 0 = ns.getD i 0))
def mayF (ks : List Ky) (ns : List Int) : Bool := decide (1 ≤ ks.length) && decide (ns.length = ks.length + 1) && allB ks.length (kP ks) && allB ns.length (nP ns)

theorem may_at {ks : List Ky} {ns : List Int} (h : mayF ks ns = true) : 1 ≤ ks.length ∧ ns.length = ks.length + 1 ∧ (∀ i, i < ks.length → kP ks i = true) ∧ (∀ i, i < ns.length → nP ns i = true) := by
  unfold mayF at h
  simp only [Bool.and_eq_true, decide_eq_true_eq, allB_iff] at h
  exact ⟨h.1.1.1, h.1.1.2, h.1.2, h.2⟩
theorem kP_len {ks : List Ky} {i : Nat} (h : kP ks i = true) : 1 ≤ (ks.getD i []).length ∧ (ks.getD i []).length ≤ 40 := by
  unfold kP at h
  simp only [Bool.and_eq_true, decide_eq_true_eq] at h
  exact h.1
theorem nP_in {ns : List Int} {i : Nat} (h : nP ns i = true) : 2 ≤ ns.getD i 0 ∧ ns.getD i 0 ≤ 1023 := by
  unfold nP at h
  simp only [Bool.and_eq_true, decide_eq_true_eq] at h
  exact h.1
theorem may_keys {ks : List Ky} {ns : List Int} (h : mayF ks ns = true) : ∀ k, k ∈ ks → 1 ≤ k.length ∧ k.length ≤ 40 := fun k hk => by
  obtain ⟨i, hi⟩ := List.getElem?_of_mem hk
  have := kP_len ((may_at h).2.2.1 i (lt_of_get hi))
  rwa [List.getD_eq_getElem?_getD, hi] at this
theorem may_kids {ks : List Ky} {ns : List Int} (h : mayF ks ns = true) : ∀ n, n ∈ ns → 2 ≤ n ∧ n ≤ 1023 := fun n hn => by
  obtain ⟨i, hi⟩ := List.getElem?_of_mem hn
  have := nP_in ((may_at h).2.2.2 i (lt_of_get hi))
  rwa [List.getD_eq_getElem?_getD, hi] at this

/-! ### Loads -/
def tailF : List Ky → List Int → List UInt8
  | k :: ks, n :: ns => (vputS k.length ++ k ++ bes n.toNat 2) ++ tailF ks ns
  | _, _ => []
def encF (ks : List Ky) : List Int → List UInt8
  | n :: ns => bes n.toNat 2 ++ tailF ks ns
  | [] => []
def sizeF : List Ky → Nat
  | [] => 2
  | k :: ks => 1 + k.length + 2 + sizeF ks

theorem sizeF_app (a : List Ky) (k : Ky) : sizeF (a ++ [k]) = sizeF a + (1 + k.length + 2) := by
  induction a with
  | nil => simp [sizeF]; omega
  | cons x a ih => simp [sizeF, ih]; omega
theorem sizeF_le : ∀ (ks : List Ky), (∀ k, k ∈ ks → k.length ≤ 40) → sizeF ks ≤ 2 + 43 * ks.length
  | [], _ => by simp [sizeF]
  | k :: ks, h => by
    have h1 := h k (by simp)
    have h2 := sizeF_le ks (fun x hx => h x (by simp [hx]))
    simp [sizeF]; omega

theorem tailF_len : ∀ (ks : List Ky) (ns : List Int), ks.length = ns.length → (∀ k, k ∈ ks → k.length ≤ 40) → (tailF ks ns).length + 2 = sizeF ks
  | [], _, _, _ => by simp [tailF, sizeF]
  | k :: ks, [], h, _ => by simp at h
  | k :: ks, n :: ns, h, hk => by
    have h1 := hk k (by simp)
    have h2 := tailF_len ks ns (by simpa using h) (fun x hx => hk x (by simp [hx]))
    rw [tailF, vputS_small (by omega), sizeF]
    simp only [List.length_append, List.length_singleton, bes_length]; omega
theorem encF_len {ks : List Ky} {ns : List Int} (h : ns.length = ks.length + 1) (hk : ∀ k, k ∈ ks → k.length ≤ 40) : (encF ks ns).length = sizeF ks := by
  cases ns with
  | nil => simp at h
  | cons n ns =>
    have := tailF_len ks ns (by simp at h; omega) hk
    rw [encF, List.length_append, bes_length]; omega

def parseF (l : List UInt8) : Option (List (Ky × Int)) :=
  if hl : l = [] then some [] else
  match h : bytesP (some l) 40 with
  | (some (a :: b :: r), k) => (parseF r).map ((k, ((a.toNat * 256 + b.toNat : Nat) : Int)) :: ·)
  | _ => .none
termination_by l.length
decreasing_by
  obtain ⟨q, e1, _, e2⟩ := bytesP_len (s := some l) (m := 40) (r := a :: b :: r) (by rw [h])
  injection e1 with e1
  subst e1
  simp at e2
  omega

theorem parseF_nil : parseF [] = some [] := by rw [parseF]; simp
theorem parseF_ok {l r : List UInt8} {a b : UInt8} {k : Ky} (hl : l ≠ []) (h : bytesP (some l) 40 = (some (a :: b :: r), k)) :
    parseF l = (parseF r).map ((k, ((a.toNat * 256 + b.toNat : Nat) : Int)) :: ·) := by
  rw [parseF, dif_neg hl]
  split
  · rename_i a' b' r' k' h'
    rw [h] at h'
    injection h' with h1 h2
    injection h1 with h1
    injection h1 with h3 h1
    injection h1 with h4 h1
    subst h1 h2 h3 h4
    rfl
  · rename_i h'
    exact absurd h (h' a b r k)
theorem parseF_bad {l : List UInt8} (hl : l ≠ []) (h : ∀ a b r, (bytesP (some l) 40).1 ≠ some (a :: b :: r)) : parseF l = .none := by
  rw [parseF, dif_neg hl]
  split
  · rename_i a' b' r' k' h'
    exact absurd (by rw [h']) (h a' b' r')
  · rfl

theorem vput_ne (v : Nat) : vputS v ≠ [] := fun h => by
  have := vputS_pos v
  rw [h] at this; simp at this

theorem bytes_put {k rest : List UInt8} (hk : k.length ≤ 40) : bytesP (some (vputS k.length ++ k ++ rest)) 40 = (some rest, k) := by
  unfold bytesP
  simp only [numP]
  rw [List.append_assoc, numS_put _ (by omega) hk]
  simp

theorem num2 {n : Int} (h0 : 0 ≤ n) (h1 : n ≤ 65535) : (((byteAt n.toNat 1).toNat * 256 + (byteAt n.toNat 0).toNat : Nat) : Int) = n := by
  unfold byteAt
  rw [UInt8.toNat_ofNat', UInt8.toNat_ofNat']
  simp only [Nat.pow_one, Nat.pow_zero, Nat.div_one]
  omega
theorem bes_2 (s : Nat) : bes s 2 = [byteAt s 1, byteAt s 0] := rfl

theorem parse_tail : ∀ (ks : List Ky) (ns : List Int), ks.length = ns.length → (∀ k, k ∈ ks → k.length ≤ 40) → (∀ n, n ∈ ns → 0 ≤ n ∧ n ≤ 65535) → ∃ acc, parseF (tailF ks ns) = some acc ∧ acc.map Prod.fst = ks ∧ acc.map Prod.snd = ns
  | [], [], _, _, _ => ⟨[], parseF_nil, rfl, rfl⟩
  | [], n :: ns, h, _, _ => by simp at h
  | k :: ks, [], h, _, _ => by simp at h
  | k :: ks, n :: ns, h, hk, hn => by
    obtain ⟨acc, h1, h2, h3⟩ := parse_tail ks ns (by simpa using h) (fun x hx => hk x (by simp [hx])) (fun x hx => hn x (by simp [hx]))
    have hnn := hn n (by simp)
    refine ⟨(k, n) :: acc, ?_, by simp [h2], by simp [h3]⟩
    have e : tailF (k :: ks) (n :: ns) = vputS k.length ++ k ++ (byteAt n.toNat 1 :: byteAt n.toNat 0 :: tailF ks ns) := by
      rw [tailF, bes_2]; simp
    rw [e, parseF_ok (by simp [vput_ne]) (bytes_put (hk k (by simp))), h1, num2 hnn.1 hnn.2]
    rfl

theorem take_pre {a b : List UInt8} (h : 0 < b.length) : (a ++ b).take ((a ++ b).length - 1) = a ++ b.take (b.length - 1) := by
  rw [List.length_append, List.take_append, List.take_of_length_le (by omega)]
  congr 2; omega

theorem parse_cut : ∀ (ks : List Ky) (ns : List Int), ks.length = ns.length → ks ≠ [] → (∀ k, k ∈ ks → k.length ≤ 40) → parseF ((tailF ks ns).take ((tailF ks ns).length - 1)) = .none
  | [], _, _, h, _ => absurd rfl h
  | k :: ks, [], h, _, _ => by simp at h
  | k :: ks, n :: ns, h, _, hk => by
    have hkk := hk k (by simp)
    by_cases hks : ks = []
    · subst hks
      have e : (tailF [k] (n :: ns)).take ((tailF [k] (n :: ns)).length - 1) = vputS k.length ++ k ++ [byteAt n.toNat 1] := by
        have e2 : tailF [k] (n :: ns) = (vputS k.length ++ k ++ [byteAt n.toNat 1]) ++ [byteAt n.toNat 0] := by
          rw [tailF, bes_2]; simp [tailF]
        rw [e2, take_pre (by simp)]
        simp
      rw [e]
      refine parseF_bad (by simp [vput_ne]) (fun a b r hh => ?_)
      rw [bytes_put hkk] at hh
      injection hh with hh
      injection hh with _ hh
      cases hh
    · have ih := parse_cut ks ns (by simpa using h) hks (fun x hx => hk x (by simp [hx]))
      have hpos : 0 < (tailF ks ns).length := by
        cases ks with
        | nil => exact absurd rfl hks
        | cons x ks =>
          cases ns with
          | nil => simp at h
          | cons y ns => rw [tailF]; simp [bes_length]; omega
      have e : (tailF (k :: ks) (n :: ns)).take ((tailF (k :: ks) (n :: ns)).length - 1) = vputS k.length ++ k ++ (byteAt n.toNat 1 :: byteAt n.toNat 0 :: (tailF ks ns).take ((tailF ks ns).length - 1)) := by
        have e2 : tailF (k :: ks) (n :: ns) = (vputS k.length ++ k ++ [byteAt n.toNat 1, byteAt n.toNat 0]) ++ tailF ks ns := by
          rw [tailF, bes_2]
        rw [e2, take_pre hpos]
        simp
      rw [e, parseF_ok (by simp [vput_ne]) (bytes_put hkk), ih]; rfl

/-- A load's fork, if it is one by its form. -/
def decL (l : List UInt8) : Option (List Ky × List Int) := match l with
  | a :: b :: r => (parseF r).map fun acc => (acc.map Prod.fst, ((a.toNat * 256 + b.toNat : Nat) : Int) :: acc.map Prod.snd)
  | _ => .none
def decF (l : List UInt8) : Option (List Ky × List Int) := if 504 < l.length then .none else match decL l with
  | some x => if mayF x.1 x.2 = true then some x else .none
  | .none => .none

theorem decL_enc {ks : List Ky} {ns : List Int} (h : mayF ks ns = true) : decL (encF ks ns) = some (ks, ns) := by
  obtain ⟨h1, h2, h3, h4⟩ := may_at h
  cases ns with
  | nil => simp at h2
  | cons n ns =>
    have hn := may_kids h
    obtain ⟨acc, p1, p2, p3⟩ := parse_tail ks ns (by simp at h2; omega) (fun k hk => (may_keys h k hk).2) (fun x hx => by have := hn x (by simp [hx]); omega)
    have hnn := hn n (by simp)
    rw [encF, bes_2]
    show decL (byteAt n.toNat 1 :: byteAt n.toNat 0 :: tailF ks ns) = _
    unfold decL
    simp only [p1, Option.map_some, p2, p3]
    rw [num2 (by omega) (by omega)]
theorem decF_enc {ks : List Ky} {ns : List Int} (h : mayF ks ns = true) (hs : sizeF ks ≤ 504) : decF (encF ks ns) = some (ks, ns) := by
  unfold decF
  rw [if_neg (by rw [encF_len (may_at h).2.1 (fun k hk => (may_keys h k hk).2)]; omega), decL_enc h]
  simp only [h, if_true]
theorem decF_cut {ks : List Ky} {ns : List Int} (h : mayF ks ns = true) : decF ((encF ks ns).take ((encF ks ns).length - 1)) = .none := by
  have hd : decL ((encF ks ns).take ((encF ks ns).length - 1)) = .none := by
    obtain ⟨h1, h2, h3, h4⟩ := may_at h
    cases ns with
    | nil => simp at h2
    | cons n ns =>
      have hks : ks ≠ [] := by rintro rfl; simp at h1
      have hlen : ks.length = ns.length := by simp at h2; omega
      have hc := parse_cut ks ns hlen hks (fun k hk => (may_keys h k hk).2)
      have hpos : 0 < (tailF ks ns).length := by
        have := tailF_len ks ns hlen (fun k hk => (may_keys h k hk).2)
        cases ks with
        | nil => exact absurd rfl hks
        | cons x ks => rw [sizeF] at this; have h5 : 2 ≤ sizeF ks := by cases ks <;> simp [sizeF]; omega
                       omega
      rw [encF, bes_2]
      have e : ([byteAt n.toNat 1, byteAt n.toNat 0] ++ tailF ks ns).take (([byteAt n.toNat 1, byteAt n.toNat 0] ++ tailF ks ns).length - 1) = byteAt n.toNat 1 :: byteAt n.toNat 0 :: (tailF ks ns).take ((tailF ks ns).length - 1) := by
        simp only [List.cons_append, List.nil_append, List.length_cons]
        rw [show (tailF ks ns).length + 1 + 1 - 1 = ((tailF ks ns).length - 1) + 1 + 1 by omega]; rfl
      rw [e]
      unfold decL
      simp only [hc, Option.map_none]
  unfold decF
  rw [hd]
  split <;> rfl

/-! ### The way to a key -/
def sortK (ks : List Ky) : Prop := ∀ i j, i < j → j < ks.length → lt (ks.getD i []) (ks.getD j []) = true
theorem sort_of {ks : List Ky} (h : ∀ i, i < ks.length → kP ks i = true) : sortK ks := by
  intro i j hij
  induction j with
  | zero => omega
  | succ j ih =>
    intro hj
    have hk := h (j + 1) hj
    unfold kP at hk
    simp only [Bool.and_eq_true, Bool.or_eq_true, decide_eq_true_eq, Nat.add_sub_cancel] at hk
    have h1 : lt (ks.getD j []) (ks.getD (j + 1) []) = true := hk.2.resolve_left (by omega)
    rcases Nat.lt_or_ge i j with h2 | h2
    · exact lt_trans (ih h2 (by omega)) h1
    · obtain rfl : i = j := by omega
      exact h1

end Go.Proofs.YtfkhijjabkhmmaaDoor.V
