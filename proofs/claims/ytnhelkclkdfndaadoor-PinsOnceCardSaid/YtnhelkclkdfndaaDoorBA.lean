/-
Layer 17: pages in use: the plain laws.
-/
import Derived.Test.YtnhelkclkdfndaaDoorXP
import Derived.Test.YtnhelkclkdfndaaDoorIA
namespace Go.Proofs.YtnhelkclkdfndaaDoor.V
open Go Go.RowKit
set_option linter.unusedSimpArgs false
set_option linter.unusedVariables false

def W64 : Nat := 18446744073709551616
/-- Sixteen words. -/
def Wds (s : Nat → Nat) : Prop := ∀ i, i < 16 → s i < 18446744073709551616
def mem (s : Nat → Nat) (n : Nat) : Bool := (s (n / 64)).testBit (n % 64)
/-- How many. -/
def cnt (s : Nat → Nat) : Nat := cntB (mem s) 1024

theorem pow64 {b : Nat} (h : b < 64) : 2 ^ b < 18446744073709551616 := Nat.pow_lt_pow_right (by decide) h

/-- Two sets with the same numbers. -/
theorem set_ext {s t : Nat → Nat} (hs : Wds s) (ht : Wds t) (h : ∀ n, n < 1024 → mem s n = mem t n) : ∀ i, i < 16 → s i = t i := fun i hi =>
  bits_ext (n := 64) (hs i hi) (ht i hi) (fun k hk => by
    have := h (i * 64 + k) (by omega)
    unfold mem at this
    rwa [show (i * 64 + k) / 64 = i by omega, show (i * 64 + k) % 64 = k by omega] at this)

def andW (x y : Nat) : Nat := x &&& (18446744073709551615 - y)
theorem andW_bit {x y i : Nat} (hx : x < 18446744073709551616) (hy : y < 18446744073709551616) : (andW x y).testBit i = (x.testBit i && !y.testBit i) := andn_bit (w := 64) hx hy
theorem andW_le {x y : Nat} : andW x y ≤ x := Nat.and_le_left

def withS (s : Nat → Nat) (n : Nat) : Nat → Nat := updA s (n / 64) (s (n / 64) ||| 2 ^ (n % 64))
def woutS (s : Nat → Nat) (n : Nat) : Nat → Nat := updA s (n / 64) (andW (s (n / 64)) (2 ^ (n % 64)))
def bothS (s t : Nat → Nat) : Nat → Nat := fun i => s i &&& t i
def eithS (s t : Nat → Nat) : Nat → Nat := fun i => s i ||| t i
def lessS (s t : Nat → Nat) : Nat → Nat := fun i => andW (s i) (t i)
/-- All below one. -/
def beloS (n : Nat) : Nat → Nat := fun i => 2 ^ min (n - i * 64) 64 - 1
def noneS : Nat → Nat := fun _ => 0

theorem with_w {s : Nat → Nat} (hs : Wds s) (n : Nat) (hn : n < 1024) : Wds (withS s n) := by
  intro i hi
  unfold withS updA
  split
  · exact Nat.or_lt_two_pow (n := 64) (hs _ (by omega)) (pow64 (Nat.mod_lt _ (by decide)))
  · exact hs i hi
theorem wout_w {s : Nat → Nat} (hs : Wds s) (n : Nat) (hn : n < 1024) : Wds (woutS s n) := by
  intro i hi
  unfold woutS updA
  split
  · exact Nat.lt_of_le_of_lt andW_le (hs _ (by omega))
  · exact hs i hi
theorem both_w {s t : Nat → Nat} (hs : Wds s) : Wds (bothS s t) := fun i hi => Nat.lt_of_le_of_lt Nat.and_le_left (hs i hi)
theorem eith_w {s t : Nat → Nat} (hs : Wds s) (ht : Wds t) : Wds (eithS s t) := fun i hi => Nat.or_lt_two_pow (n := 64) (hs i hi) (ht i hi)
theorem less_w {s t : Nat → Nat} (hs : Wds s) : Wds (lessS s t) := fun i hi => Nat.lt_of_le_of_lt andW_le (hs i hi)
theorem belo_w (n : Nat) : Wds (beloS n) := by
  intro i _
  unfold beloS
  have : 2 ^ min (n - i * 64) 64 ≤ 2 ^ 64 := Nat.pow_le_pow_right (by decide) (Nat.min_le_right _ _)
  have h2 : 0 < 2 ^ min (n - i * 64) 64 := Nat.pow_pos (by decide)
  omega
theorem none_w : Wds noneS := fun _ _ => by show 0 < 18446744073709551616; decide

theorem mem_with {s : Nat → Nat} {n k : Nat} : mem (withS s n) k = (mem s k || decide (k = n)) := by
  unfold mem withS updA
  by_cases h : k / 64 = n / 64
  · rw [if_pos h, Nat.testBit_or, pow_bit, h]
    congr 1
    exact decide_eq_decide.2 (by omega)
  · rw [if_neg h]
    have : decide (k = n) = false := decide_eq_false (by omega)
    rw [this, Bool.or_false]
theorem mem_wout {s : Nat → Nat} (hs : Wds s) {n k : Nat} (hn : n < 1024) : mem (woutS s n) k = (mem s k && !decide (k = n)) := by
  unfold mem woutS updA
  by_cases h : k / 64 = n / 64
  · rw [if_pos h, andW_bit (hs _ (by omega)) (pow64 (Nat.mod_lt _ (by decide))), pow_bit, h]
    congr 2
    exact decide_eq_decide.2 (by omega)
  · rw [if_neg h]
    have : decide (k = n) = false := decide_eq_false (by omega)
    rw [this]; simp
theorem mem_both {s t : Nat → Nat} {k : Nat} : mem (bothS s t) k = (mem s k && mem t k) := Nat.testBit_and _ _ _
theorem mem_eith {s t : Nat → Nat} {k : Nat} : mem (eithS s t) k = (mem s k || mem t k) := Nat.testBit_or _ _ _
theorem mem_less {s t : Nat → Nat} (hs : Wds s) (ht : Wds t) {k : Nat} (hk : k < 1024) : mem (lessS s t) k = (mem s k && !mem t k) := andW_bit (hs _ (by omega)) (ht _ (by omega))
theorem mem_belo {n k : Nat} : mem (beloS n) k = decide (k < n) := by
  unfold mem beloS
  rw [Nat.testBit_two_pow_sub_one]
  exact decide_eq_decide.2 (by omega)
theorem mem_none {k : Nat} : mem noneS k = false := by unfold mem noneS; exact Nat.zero_testBit _

/-! ### How many -/
theorem ones_cnt : ∀ (n v : Nat), v < 2 ^ n → onesN v = cntB v.testBit n
  | 0, v, h => by
    obtain rfl : v = 0 := by simp at h; omega
    rw [ones_zero]; rfl
  | n + 1, v, h => by
    have ih := ones_cnt n (v / 2) (by rw [Nat.pow_succ] at h; omega)
    rw [ones_step, ih]
    clear ih h
    induction n with
    | zero =>
      simp only [cntB, Nat.testBit_zero]
      rcases Nat.mod_two_eq_zero_or_one v with e | e <;> rw [e] <;> rfl
    | succ n ih =>
      rw [cntB, ← Nat.add_assoc, ih]
      conv => rhs; rw [cntB]
      rw [Nat.testBit_add_one]

/-- How many in the words ahead of the i-th. -/
def cntW (s : Nat → Nat) : Nat → Nat
  | 0 => 0
  | i + 1 => cntW s i + onesN (s i)

theorem cntB_add (p : Nat → Bool) (a : Nat) : ∀ b, cntB p (a + b) = cntB p a + cntB (fun i => p (a + i)) b
  | 0 => by simp [cntB]
  | b + 1 => by rw [← Nat.add_assoc, cntB, cntB_add p a b, cntB]; omega

theorem cntW_eq {s : Nat → Nat} (hs : Wds s) : ∀ i, i ≤ 16 → cntW s i = cntB (mem s) (i * 64)
  | 0, _ => rfl
  | i + 1, h => by
    rw [cntW, cntW_eq hs i (by omega), show (i + 1) * 64 = i * 64 + 64 by omega, cntB_add, ones_cnt 64 (s i) (hs i (by omega))]
    congr 1
    refine cntB_ext 64 (fun k hk => ?_)
    unfold mem
    rw [show (i * 64 + k) / 64 = i by omega, show (i * 64 + k) % 64 = k by omega]

theorem cnt_le (s : Nat → Nat) : cnt s ≤ 1024 := cntB_le _ _

theorem cntB_or_and (p q : Nat → Bool) : ∀ n, cntB (fun i => p i && q i) n + cntB (fun i => p i || q i) n = cntB p n + cntB q n
  | 0 => rfl
  | n + 1 => by
    have := cntB_or_and p q n
    simp only [cntB]
    cases p n <;> cases q n <;> simp <;> omega

theorem cntB_parts (p q : Nat → Bool) : ∀ n, cntB (fun i => p i && q i) n + cntB (fun i => p i && !q i) n = cntB p n
  | 0 => rfl
  | n + 1 => by
    have := cntB_parts p q n
    simp only [cntB]
    cases p n <;> cases q n <;> simp <;> omega

theorem cntB_below (p : Nat → Bool) (m : Nat) : ∀ n, m ≤ n → cntB (fun i => p i && decide (i < m)) n = cntB p m
  | 0, h => by obtain rfl : m = 0 := by omega
               rfl
  | n + 1, h => by
    rcases Nat.lt_or_ge n m with h1 | h1
    · obtain rfl : m = n + 1 := by omega
      exact cntB_ext _ (fun i hi => by simp [hi])
    · rw [cntB, cntB_below p m n h1]
      have : ¬ n < m := by omega
      simp [this]

theorem cntB_all (m : Nat) : cntB (fun _ => true) m = m := by
  induction m with
  | zero => rfl
  | succ m ih => rw [cntB, ih]; rfl

theorem cnt_both_eith (s t : Nat → Nat) : cnt (bothS s t) + cnt (eithS s t) = cnt s + cnt t := by
  unfold cnt
  rw [← cntB_or_and (mem s) (mem t) 1024, cntB_ext (p := mem (bothS s t)) (q := fun i => mem s i && mem t i) 1024 (fun _ _ => mem_both), cntB_ext (p := mem (eithS s t)) (q := fun i => mem s i || mem t i) 1024 (fun _ _ => mem_eith)]
theorem cnt_both_less {s t : Nat → Nat} (hs : Wds s) (ht : Wds t) : cnt (bothS s t) + cnt (lessS s t) = cnt s := by
  unfold cnt
  rw [← cntB_parts (mem s) (mem t) 1024, cntB_ext (p := mem (bothS s t)) (q := fun i => mem s i && mem t i) 1024 (fun _ _ => mem_both), cntB_ext (p := mem (lessS s t)) (q := fun i => mem s i && !mem t i) 1024 (fun _ hi => mem_less hs ht hi)]
theorem cnt_belo {n : Nat} (h : n ≤ 1024) : cnt (beloS n) = n := by
  unfold cnt
  rw [cntB_ext (q := fun i => true && decide (i < n)) 1024 (fun i _ => by rw [mem_belo]; rfl), cntB_below (fun _ => true) n 1024 h, cntB_all]
theorem cnt_both_belo {s : Nat → Nat} {n : Nat} (h : n ≤ 1024) : cnt (bothS s (beloS n)) = cntB (mem s) n := by
  unfold cnt
  rw [cntB_ext (q := fun i => mem s i && decide (i < n)) 1024 (fun i _ => by rw [mem_both, mem_belo]), cntB_below (mem s) n 1024 h]

/-! ### All of them -/
/-- Those below n, ascending. -/
def lst (p : Nat → Bool) (n : Nat) : List Nat := (List.range n).filter p
theorem lst_succ (p : Nat → Bool) (n : Nat) : lst p (n + 1) = if p n then lst p n ++ [n] else lst p n := by
  unfold lst
  rw [List.range_succ, List.filter_append]
  cases h : p n <;> simp [h]
theorem lst_len (p : Nat → Bool) : ∀ n, (lst p n).length = cntB p n
  | 0 => rfl
  | n + 1 => by
    rw [lst_succ, cntB]
    cases h : p n <;> simp [lst_len p n]
/-- Nothing new. -/
theorem lst_gap {p : Nat → Bool} {a : Nat} : ∀ b, (∀ i, a ≤ i → i < a + b → p i = false) → lst p (a + b) = lst p a
  | 0, _ => rfl
  | b + 1, h => by
    rw [← Nat.add_assoc, lst_succ, h (a + b) (by omega) (by omega), lst_gap b (fun i h1 h2 => h i h1 (by omega))]; rfl
theorem lst_ext {p q : Nat → Bool} {n : Nat} (h : ∀ i, i < n → p i = q i) : lst p n = lst q n := by
  unfold lst
  exact List.filter_congr (fun i hi => h i (List.mem_range.1 hi))
/-- The i-th one: a number of the set, with i below it. -/
theorem lst_get (p : Nat → Bool) : ∀ (n i : Nat) (x : Nat), (lst p n)[i]? = some x → x < n ∧ p x = true ∧ cntB p x = i
  | 0, i, x, h => by simp [lst] at h
  | n + 1, i, x, h => by
    rw [lst_succ] at h
    have old : (lst p n)[i]? = some x → x < n + 1 ∧ p x = true ∧ cntB p x = i := fun h' => by
      obtain ⟨h1, h2, h3⟩ := lst_get p n i x h'
      exact ⟨by omega, h2, h3⟩
    cases hp : p n with
    | false => rw [hp] at h; exact old h
    | true =>
      rw [hp, if_pos rfl, List.getElem?_append] at h
      split at h
      · exact old h
      · rename_i hl
        rw [lst_len] at hl h
        have : i - cntB p n = 0 := by
          rcases Nat.eq_zero_or_pos (i - cntB p n) with e | e
          · exact e
          · rw [List.getElem?_eq_none (by simp; omega)] at h; cases h
        rw [this] at h
        simp at h
        subst h
        exact ⟨by omega, hp, by omega⟩
theorem lst_some {p : Nat → Bool} {n i : Nat} (h : i < cntB p n) : ∃ x, (lst p n)[i]? = some x := ⟨_, List.getElem?_eq_getElem (by rw [lst_len]; exact h)⟩
theorem lst_mem {p : Nat → Bool} {n x : Nat} : x ∈ lst p n ↔ x < n ∧ p x = true := by simp [lst]

theorem cntB_le_of {p : Nat → Bool} {x y : Nat} (h : x ≤ y) : cntB p x ≤ cntB p y := by
  obtain ⟨b, rfl⟩ := Nat.exists_eq_add_of_le h
  rw [cntB_add]; omega
/-- Ascending. -/
theorem lst_lt {p : Nat → Bool} {n i j x y : Nat} (hi : (lst p n)[i]? = some x) (hj : (lst p n)[j]? = some y) (h : i < j) : x < y := by
  obtain ⟨_, _, h1⟩ := lst_get p n i x hi
  obtain ⟨_, _, h2⟩ := lst_get p n j y hj
  rcases Nat.lt_or_ge x y with h3 | h3
  · exact h3
  · have := cntB_le_of (p := p) h3; omega

/-! ### Taking -/
/-- Without those of a list. -/
def lessL (s : Nat → Nat) : List Nat → (Nat → Nat)
  | [] => s
  | x :: r => lessL (woutS s x) r
theorem lessL_app (s : Nat → Nat) (x : Nat) : ∀ l, lessL s (l ++ [x]) = woutS (lessL s l) x := by
  intro l
  induction l generalizing s with
  | nil => rfl
  | cons y l ih => exact ih _
theorem lessL_w {s : Nat → Nat} : ∀ (l : List Nat), Wds s → (∀ x, x ∈ l → x < 1024) → Wds (lessL s l) ∧ ∀ k, mem (lessL s l) k = (mem s k && !decide (k ∈ l))
  | [], hs, _ => ⟨hs, fun k => by simp [lessL]⟩
  | x :: l, hs, h => by
    have hx := h x (by simp)
    obtain ⟨h1, h2⟩ := lessL_w l (wout_w hs x hx) (fun y hy => h y (by simp [hy]))
    refine ⟨h1, fun k => ?_⟩
    rw [lessL, h2, mem_wout hs hx]
    by_cases e : k = x <;> simp [e]

/-! ### The document's list -/
def ofL (s : Nat → Nat) : Nat → Bool := mem s
def toL (l : Nat → Bool) : Nat → Nat := fun i => ofB (fun k => l (i * 64 + k)) 64
theorem toL_w (l : Nat → Bool) : Wds (toL l) := fun i _ => ofB_lt 64 _
theorem mem_toL {l : Nat → Bool} {n : Nat} : mem (toL l) n = l n := by
  unfold mem toL
  rw [ofB_bit, show n / 64 * 64 + n % 64 = n by omega]
  have : n % 64 < 64 := Nat.mod_lt _ (by decide)
  simp [this]
/-- As the document's way goes: from the back. -/
def toLk (l : Nat → Bool) (k : Nat) : Nat → Nat := fun i => ofB (fun j => l (max k (i * 64) + j)) (i * 64 + 64 - max k (i * 64))
theorem toLk_end (l : Nat → Bool) : toLk l 0 = toL l := by
  funext i
  unfold toLk toL
  rw [Nat.zero_max, show i * 64 + 64 - i * 64 = 64 by omega]
theorem toLk_begin (l : Nat → Bool) : ∀ i, i < 16 → toLk l 1024 i = 0 := by
  intro i hi
  unfold toLk
  rw [show i * 64 + 64 - max 1024 (i * 64) = 0 by omega]; rfl
theorem toLk_step (l : Nat → Bool) (k : Nat) : toLk l k = updA (toLk l (k + 1)) (k / 64) ((bif l k then 1 else 0) + 2 * toLk l (k + 1) (k / 64)) := by
  funext i
  unfold updA
  split
  · rename_i e
    subst e
    unfold toLk
    rw [show max k (k / 64 * 64) = k by omega, show max (k + 1) (k / 64 * 64) = k + 1 by omega, show k / 64 * 64 + 64 - k = (k / 64 * 64 + 64 - (k + 1)) + 1 by omega, ofB]
    congr 3
    funext j
    rw [show k + (j + 1) = k + 1 + j by omega]
  · rename_i e
    unfold toLk
    have h1 : max k (i * 64) = max (k + 1) (i * 64) ∨ i * 64 + 64 ≤ k := by omega
    rcases h1 with h1 | h1
    · rw [h1]
    · rw [show i * 64 + 64 - max k (i * 64) = 0 by omega, show i * 64 + 64 - max (k + 1) (i * 64) = 0 by omega]; rfl

end Go.Proofs.YtnhelkclkdfndaaDoor.V
