/-
Layer 31: who may see whom: the plain laws.
-/
import Derived.Test.YtbbbhalmlboapaaDoorXP
namespace Go.Proofs.YtbbbhalmlboapaaDoor.V
open Go Go.RowKit
set_option linter.unusedSimpArgs false
set_option linter.unusedVariables false

def tb (m : Nat → Nat) (a b : Nat) : Bool := (m a).testBit b
def Bnd (m : Nat → Nat) : Prop := ∀ i, i < 16 → m i < 65536
def May (m : Nat → Nat) : Prop := ∀ a b, a < 16 → b < 16 → tb m a b = tb m b a ∧ tb m a a = false
open Classical in noncomputable def mayM (m : Nat → Nat) : Bool := decide (May m)
theorem mayM_t {m : Nat → Nat} : mayM m = true ↔ May m := by simp [mayM]
theorem mayM_f {m : Nat → Nat} : mayM m = false ↔ ¬ May m := by simp [mayM]

def andN (x y : Nat) : Nat := x &&& (65535 - y)
theorem andN_bit {x y i : Nat} (hx : x < 65536) (hy : y < 65536) : (andN x y).testBit i = (x.testBit i && !y.testBit i) := andn_bit (w := 16) hx hy
theorem andN_le {x y : Nat} : andN x y ≤ x := Nat.and_le_left

def opn (m : Nat → Nat) (a b : Nat) : Nat → Nat := updA (updA m a (m a ||| 2 ^ b)) b (m b ||| 2 ^ a)
def cls (m : Nat → Nat) (a b : Nat) : Nat → Nat := updA (updA m a (andN (m a) (2 ^ b))) b (andN (m b) (2 ^ a))
def lve (m : Nat → Nat) (a : Nat) : Nat → Nat := fun i => andN (if i = a then 0 else m i) (2 ^ a)

theorem pow16 {b : Nat} (h : b < 16) : 2 ^ b < 65536 := Nat.pow_lt_pow_right (by decide) h

theorem opn_bnd {m : Nat → Nat} {a b : Nat} (hm : Bnd m) (ha : a < 16) (hb : b < 16) : Bnd (opn m a b) := by
  intro i hi
  unfold opn updA
  have h1 := Nat.or_lt_two_pow (n := 16) (hm a ha) (pow16 hb)
  have h2 := Nat.or_lt_two_pow (n := 16) (hm b hb) (pow16 ha)
  have h3 := hm i hi
  split
  · exact h2
  · split
    · exact h1
    · exact h3

theorem cls_bnd {m : Nat → Nat} {a b : Nat} (hm : Bnd m) (ha : a < 16) (hb : b < 16) : Bnd (cls m a b) := by
  intro i hi
  unfold cls updA
  have h1 := hm a ha
  have h2 := hm b hb
  have h3 := hm i hi
  have h4 := andN_le (x := m a) (y := 2 ^ b)
  have h5 := andN_le (x := m b) (y := 2 ^ a)
  split
  · omega
  · split <;> omega

theorem lve_bnd {m : Nat → Nat} {a : Nat} (hm : Bnd m) : Bnd (lve m a) := by
  intro i hi
  unfold lve
  have h1 := hm i hi
  refine Nat.lt_of_le_of_lt andN_le ?_
  split
  · decide
  · exact h1

theorem tb_opn {m : Nat → Nat} {a b p q : Nat} (hab : a ≠ b) : tb (opn m a b) p q = (tb m p q || (decide (p = a) && decide (q = b)) || (decide (p = b) && decide (q = a))) := by
  unfold tb opn updA
  by_cases h1 : p = b
  · subst h1
    have : ¬ p = a := fun e => hab e.symm
    simp [Nat.testBit_or, pow_bit, this, eq_comm]
  · by_cases h2 : p = a
    · subst h2; simp [h1, Nat.testBit_or, pow_bit, eq_comm]
    · simp [h1, h2]

theorem tb_cls {m : Nat → Nat} {a b p q : Nat} (hm : Bnd m) (ha : a < 16) (hb : b < 16) (hab : a ≠ b) : tb (cls m a b) p q = (tb m p q && !(decide (p = a) && decide (q = b)) && !(decide (p = b) && decide (q = a))) := by
  unfold tb cls updA
  by_cases h1 : p = b
  · subst h1
    have : ¬ p = a := fun e => hab e.symm
    simp [andN_bit (hm p hb) (pow16 ha), pow_bit, this, eq_comm]
  · by_cases h2 : p = a
    · subst h2; simp [h1, andN_bit (hm p ha) (pow16 hb), pow_bit, eq_comm]
    · simp [h1, h2]

theorem tb_lve {m : Nat → Nat} {a p q : Nat} (hm : Bnd m) (ha : a < 16) (hp : p < 16) : tb (lve m a) p q = (tb m p q && !decide (p = a) && !decide (q = a)) := by
  unfold tb lve
  by_cases h : p = a
  · subst h
    rw [andN_bit (by simp) (pow16 ha)]; simp
  · have := hm p hp
    rw [if_neg h, andN_bit this (pow16 ha), pow_bit]
    simp [h, eq_comm]

theorem mat_ext {m m' : Nat → Nat} (h : Bnd m) (h' : Bnd m') (e : ∀ p q, p < 16 → q < 16 → tb m p q = tb m' p q) : ∀ i, i < 16 → m i = m' i :=
  fun i hi => bits_ext (n := 16) (h i hi) (h' i hi) (fun q hq => e i q hi hq)

theorem may_opn {m : Nat → Nat} {a b : Nat} (h : May m) (hab : a ≠ b) : May (opn m a b) := by
  intro p q hp hq
  obtain ⟨h1, h2⟩ := h p q hp hq
  rw [tb_opn hab, tb_opn hab, tb_opn hab, h1, h2]
  constructor
  · cases tb m q p <;> cases decide (p = a) <;> cases decide (p = b) <;> cases decide (q = a) <;> cases decide (q = b) <;> rfl
  · by_cases e1 : p = a <;> by_cases e2 : p = b <;> simp [e1, e2, hab]
    · exact fun e => hab e.symm

theorem may_cls {m : Nat → Nat} {a b : Nat} (hm : Bnd m) (h : May m) (ha : a < 16) (hb : b < 16) (hab : a ≠ b) : May (cls m a b) := by
  intro p q hp hq
  obtain ⟨h1, h2⟩ := h p q hp hq
  rw [tb_cls hm ha hb hab, tb_cls hm ha hb hab, tb_cls hm ha hb hab, h1, h2]
  constructor
  · cases tb m q p <;> cases decide (p = a) <;> cases decide (p = b) <;> cases decide (q = a) <;> cases decide (q = b) <;> rfl
  · rfl

theorem may_lve {m : Nat → Nat} {a : Nat} (hm : Bnd m) (h : May m) (ha : a < 16) : May (lve m a) := by
  intro p q hp hq
  obtain ⟨h1, h2⟩ := h p q hp hq
  rw [tb_lve hm ha hp, tb_lve hm ha hq, tb_lve hm ha hp, h1, h2]
  exact ⟨by cases tb m q p <;> cases decide (p = a) <;> cases decide (q = a) <;> rfl, rfl⟩

/-! ### Whom one is joined with -/
inductive Joins (m : Nat → Nat) (a : Nat) : Nat → Prop
  | refl : Joins m a a
  | step {x y : Nat} (h : Joins m a x) (hx : x < 16) (hy : y < 16) (ht : tb m x y = true) : Joins m a y

open Classical in noncomputable def joinB (m : Nat → Nat) (a p : Nat) : Bool := decide (Joins m a p)
noncomputable def grp (m : Nat → Nat) (a : Nat) : Nat := ofB (joinB m a) 16

theorem joinB_t {m : Nat → Nat} {a p : Nat} : joinB m a p = true ↔ Joins m a p := by simp [joinB]
theorem grp_lt {m : Nat → Nat} {a : Nat} : grp m a < 65536 := ofB_lt 16 _
theorem grp_bit {m : Nat → Nat} {a p : Nat} (h : p < 16) : (grp m a).testBit p = joinB m a p := by unfold grp; rw [ofB_bit]; simp [h]

/-- What is closed, and has the first one, has all that it is joined with. -/
theorem joins_in {m : Nat → Nat} {a : Nat} {s : Nat → Bool} (h0 : s a = true) (h : ∀ x y, x < 16 → y < 16 → s x = true → tb m x y = true → s y = true) {p : Nat} (hp : Joins m a p) : s p = true := by
  induction hp with
  | refl => exact h0
  | step _ hx hy ht ih => exact h _ _ hx hy ih ht

theorem joins_trans {m : Nat → Nat} {a b c : Nat} (h : Joins m a b) (h' : Joins m b c) : Joins m a c := by
  induction h' with
  | refl => exact h
  | step _ hx hy ht ih => exact .step ih hx hy ht

theorem joins_symm {m : Nat → Nat} (hm : May m) {a b : Nat} (h : Joins m a b) : Joins m b a := by
  induction h with
  | refl => exact .refl
  | step _ hx hy ht ih =>
    exact joins_trans (.step .refl hy hx (by rw [(hm _ _ hy hx).1]; exact ht)) ih

theorem grp_eq {m : Nat → Nat} (hm : May m) {a b : Nat} (ha : a < 16) (hb : b < 16) : joinB m a b = true ↔ grp m a = grp m b := by
  rw [joinB_t]
  constructor
  · intro h
    refine bits_ext (n := 16) grp_lt grp_lt (fun i hi => ?_)
    rw [grp_bit hi, grp_bit hi, Bool.eq_iff_iff, joinB_t, joinB_t]
    exact ⟨fun h' => joins_trans (joins_symm hm h) h', fun h' => joins_trans h h'⟩
  · intro h
    have h1 := grp_bit (m := m) (a := a) hb
    rw [h, grp_bit hb] at h1
    exact joinB_t.1 (h1 ▸ joinB_t.2 .refl)

theorem grp_tb {m : Nat → Nat} (hm : May m) {a b : Nat} (ha : a < 16) (hb : b < 16) (h : tb m a b = true) : grp m a = grp m b :=
  (grp_eq hm ha hb).1 (joinB_t.2 (.step .refl ha hb h))

theorem grp_lve {m : Nat → Nat} {a : Nat} (hm : Bnd m) (ha : a < 16) : grp (lve m a) a = 2 ^ a := by
  refine bits_ext (n := 16) grp_lt (pow16 ha) (fun i hi => ?_)
  rw [grp_bit hi, pow_bit, Bool.eq_iff_iff, joinB_t, decide_eq_true_eq]
  constructor
  · intro h
    have := joins_in (s := fun p => decide (p = a)) (by simp) (fun x y hx hy h1 h2 => by
      rw [tb_lve hm ha hx] at h2
      simp only [decide_eq_true_eq] at h1
      subst h1; simp at h2) h
    simp only [decide_eq_true_eq] at this
    exact this.symm
  · rintro rfl; exact .refl

/-- Whether some are apart from all others. -/
def Apt (m : Nat → Nat) (s : Nat) : Prop := ∀ p q, p < 16 → q < 16 → s.testBit p = true → tb m p q = true → s.testBit q = true
open Classical in noncomputable def aptS (m : Nat → Nat) (s : Nat) : Bool := mayM m && decide (Apt m s)

theorem apt_t {m : Nat → Nat} {s : Nat} : aptS m s = true ↔ mayM m = true ∧ Apt m s := by simp [aptS]
theorem apt_grp {m : Nat → Nat} {a : Nat} : Apt m (grp m a) := by
  intro p q hp hq h1 h2
  rw [grp_bit hp] at h1
  rw [grp_bit hq, joinB_t]
  exact .step (joinB_t.1 h1) hp hq h2

/-! ### The document's table -/
def ofS (m : Nat → Nat) : Nat → Bool := fun k => tb m (k / 16) (k % 16)
def toS (t : Nat → Bool) : Nat → Nat := fun a => ofB (fun b => t (a * 16 + b)) 16
theorem toS_bnd {t : Nat → Bool} : Bnd (toS t) := fun i _ => ofB_lt 16 _
theorem tb_toS {t : Nat → Bool} {a b : Nat} (hb : b < 16) : tb (toS t) a b = t (a * 16 + b) := by
  unfold tb toS
  rw [ofB_bit]; simp [hb]
theorem ofS_at {m : Nat → Nat} {a b : Nat} (hb : b < 16) : ofS m (a * 16 + b) = tb m a b := by
  unfold ofS
  rw [show (a * 16 + b) / 16 = a by omega, show (a * 16 + b) % 16 = b by omega]

theorem at_ne {a b p q : Nat} (hb : b < 16) (hq : q < 16) : (p * 16 + q = a * 16 + b) = (p = a ∧ q = b) := propext ⟨fun h => by omega, fun h => by omega⟩

def setS (m : Nat → Nat) (a b : Nat) (s : Bool) : Nat → Nat := toS (updA (updA (ofS m) (a * 16 + b) s) (b * 16 + a) s)

theorem setS_t {m : Nat → Nat} {a b : Nat} (hm : Bnd m) (ha : a < 16) (hb : b < 16) (hab : a ≠ b) : ∀ i, i < 16 → opn m a b i = setS m a b true i := by
  refine mat_ext (opn_bnd hm ha hb) toS_bnd (fun p q hp hq => ?_)
  unfold setS
  rw [tb_opn hab, tb_toS hq]
  unfold updA
  simp only [at_ne ha hq, at_ne hb hq, ofS_at hq]
  by_cases e1 : p = a <;> by_cases e2 : p = b <;> by_cases e3 : q = a <;> by_cases e4 : q = b <;> simp [e1, e2, e3, e4, hab, Ne.symm hab]

theorem setS_f {m : Nat → Nat} {a b : Nat} (hm : Bnd m) (ha : a < 16) (hb : b < 16) (hab : a ≠ b) : ∀ i, i < 16 → cls m a b i = setS m a b false i := by
  refine mat_ext (cls_bnd hm ha hb) toS_bnd (fun p q hp hq => ?_)
  unfold setS
  rw [tb_cls hm ha hb hab, tb_toS hq]
  unfold updA
  simp only [at_ne ha hq, at_ne hb hq, ofS_at hq]
  by_cases e1 : p = a <;> by_cases e2 : p = b <;> by_cases e3 : q = a <;> by_cases e4 : q = b <;> simp [e1, e2, e3, e4, hab, Ne.symm hab]

/-! ### Sixteen times all that those see -/
/-- Those that have been looked at: the pairs ahead of (i, k). -/
structure Inn (m : Nat → Nat) (a : Nat) (s0 s : Nat → Bool) (i k : Nat) : Prop where
  has : s a = true
  le : ∀ p, p < 16 → s p = true → Joins m a p
  up : ∀ p, p < 16 → s0 p = true → s p = true
  cl : ∀ x y, x < 16 → y < 16 → (x < i ∨ x = i ∧ y < k) → s0 x = true → tb m x y = true → s y = true

theorem Inn.step {m : Nat → Nat} {a : Nat} {s0 s : Nat → Bool} {i k : Nat} (h : Inn m a s0 s i k) (hi : i < 16) (hk : k < 16) : Inn m a s0 (updA s k (s k || s i && tb m i k)) i (k + 1) := by
  have up : ∀ p, s p = true → updA s k (s k || s i && tb m i k) p = true := by
    intro p hp
    unfold updA
    split
    · rename_i e; subst e; rw [hp]; rfl
    · exact hp
  refine ⟨up a h.has, fun p hp hs => ?_, fun p hp hs => up p (h.up p hp hs), fun x y hx hy hxy h0 ht => ?_⟩
  · unfold updA at hs
    split at hs
    · rename_i e; subst e
      rw [Bool.or_eq_true, Bool.and_eq_true] at hs
      rcases hs with hs | ⟨h1, h2⟩
      · exact h.le p hp hs
      · exact .step (h.le i hi h1) hi hp h2
    · exact h.le p hp hs
  · by_cases e : x = i ∧ y = k
    · obtain ⟨rfl, rfl⟩ := e
      unfold updA
      rw [if_pos rfl, h.up x hx h0, ht]; simp
    · exact up y (h.cl x y hx hy (by omega) h0 ht)

theorem Inn.row {m : Nat → Nat} {a : Nat} {s0 s : Nat → Bool} {i : Nat} (h : Inn m a s0 s i 16) : Inn m a s0 s (i + 1) 0 :=
  ⟨h.has, h.le, h.up, fun x y hx hy hxy h0 ht => h.cl x y hx hy (by omega) h0 ht⟩

/-- Behind n rounds. -/
def Rnd (m : Nat → Nat) (a : Nat) (s : Nat → Bool) (n : Nat) : Prop :=
  s a = true ∧ (∀ p, p < 16 → s p = true → Joins m a p) ∧ ((∀ p, p < 16 → Joins m a p → s p = true) ∨ n + 1 ≤ cntB s 16)

theorem Rnd.inn {m : Nat → Nat} {a : Nat} {s : Nat → Bool} {n : Nat} (h : Rnd m a s n) : Inn m a s s 0 0 :=
  ⟨h.1, h.2.1, fun _ _ h => h, fun x y _ _ hxy _ _ => by omega⟩

theorem Rnd.next {m : Nat → Nat} {a : Nat} {s0 s : Nat → Bool} {n : Nat} (h0 : Rnd m a s0 n) (h : Inn m a s0 s 16 0) : Rnd m a s (n + 1) := by
  refine ⟨h.has, h.le, ?_⟩
  rcases h0.2.2 with h1 | h1
  · exact .inl fun p hp hj => h.up p hp (h1 p hp hj)
  · by_cases hc : ∀ x y, x < 16 → y < 16 → s0 x = true → tb m x y = true → s0 y = true
    · exact .inl fun p hp hj => h.up p hp (joins_in h0.1 hc hj)
    · right
      have : ∃ x y, x < 16 ∧ y < 16 ∧ s0 x = true ∧ tb m x y = true ∧ s0 y = false := by
        apply Classical.byContradiction
        intro hn
        apply hc
        intro x y hx hy h1 h2
        cases h3 : s0 y with
        | true => rfl
        | false => exact absurd ⟨x, y, hx, hy, h1, h2, h3⟩ hn
      obtain ⟨x, y, hx, hy, h2, h3, h4⟩ := this
      have := cntB_lt (p := s0) (q := s) 16 h.up hy h4 (h.cl x y hx hy (by omega) h2 h3)
      omega

theorem Rnd.done {m : Nat → Nat} {a : Nat} {s : Nat → Bool} (h : Rnd m a s 16) : ∀ p, p < 16 → s p = joinB m a p := by
  intro p hp
  rw [Bool.eq_iff_iff, joinB_t]
  refine ⟨h.2.1 p hp, fun hj => ?_⟩
  rcases h.2.2 with h1 | h1
  · exact h1 p hp hj
  · have := cntB_le 16 s
    omega

theorem Rnd.first (m : Nat → Nat) {a : Nat} (ha : a < 16) : Rnd m a (updA (fun _ => false) a true) 0 := by
  refine ⟨updA_same _ _ _, fun p hp h => ?_, .inr (cntB_pos 16 ha (updA_same _ _ _))⟩
  unfold updA at h
  split at h
  · rename_i e; subst e; exact .refl
  · cases h

/-! ### The program's way: some to do, some done -/
structure Wrk (m : Nat → Nat) (a out work : Nat) : Prop where
  lo : out < 65536
  lw : work < 65536
  has : out.testBit a = true ∨ work.testBit a = true
  le : ∀ p, p < 16 → (out.testBit p = true ∨ work.testBit p = true) → Joins m a p
  cl : ∀ x y, x < 16 → y < 16 → out.testBit x = true → tb m x y = true → out.testBit y = true ∨ work.testBit y = true
  ap : ∀ p, out.testBit p = true → work.testBit p = false

theorem Wrk.first (m : Nat → Nat) {a : Nat} (ha : a < 16) : Wrk m a 0 (2 ^ a) := by
  refine ⟨by decide, pow16 ha, .inr (by rw [pow_bit]; simp), fun p hp h => ?_, fun x y _ _ h => by simp at h, fun p h => by simp at h⟩
  rw [pow_bit] at h
  simp at h
  subst h; exact .refl

theorem Wrk.done {m : Nat → Nat} {a out : Nat} (h : Wrk m a out 0) : out = grp m a := by
  refine bits_ext (n := 16) h.lo grp_lt (fun i hi => ?_)
  rw [grp_bit hi, Bool.eq_iff_iff, joinB_t]
  constructor
  · exact fun h' => h.le i hi (.inl h')
  · intro hj
    have h0 : out.testBit a = true := by
      rcases h.has with h1 | h1
      · exact h1
      · simp at h1
    exact joins_in (s := fun p => out.testBit p) h0 (fun x y hx hy h1 h2 => by
      rcases h.cl x y hx hy h1 h2 with h3 | h3
      · exact h3
      · simp at h3) hj

theorem Wrk.step {m : Nat → Nat} {a out work i : Nat} (hm : Bnd m) (h : Wrk m a out work) (hi : i < 16) (hw : work.testBit i = true) :
    Wrk m a (out ||| 2 ^ i) (andN (work ||| m i) (out ||| 2 ^ i)) ∧ 16 - cntB (out ||| 2 ^ i).testBit 16 < 16 - cntB out.testBit 16 := by
  have h1 : out ||| 2 ^ i < 65536 := Nat.or_lt_two_pow (n := 16) h.lo (pow16 hi)
  have h2 : work ||| m i < 65536 := Nat.or_lt_two_pow (n := 16) h.lw (hm i hi)
  have hni : out.testBit i = false := by
    cases e : out.testBit i with
    | false => rfl
    | true => rw [h.ap i e] at hw; cases hw
  have hj := h.le i hi (.inr hw)
  refine ⟨⟨h1, Nat.lt_of_le_of_lt andN_le h2, ?_, fun p hp hs => ?_, fun x y hx hy hs ht => ?_, fun p hs => ?_⟩, ?_⟩
  · simp only [andN_bit h2 h1, Nat.testBit_or, pow_bit]
    rcases h.has with e | e <;> rw [e]
    · simp
    · cases out.testBit a <;> cases decide (i = a) <;> simp
  · simp only [andN_bit h2 h1, Nat.testBit_or, pow_bit, Bool.or_eq_true, Bool.and_eq_true, decide_eq_true_eq] at hs
    rcases hs with (hs | rfl) | ⟨hs | hs, _⟩
    · exact h.le p hp (.inl hs)
    · exact hj
    · exact h.le p hp (.inr hs)
    · exact .step hj hi hp hs
  · simp only [andN_bit h2 h1, Nat.testBit_or, pow_bit, Bool.or_eq_true, decide_eq_true_eq] at hs ⊢
    have : (out.testBit y || decide (i = y)) = true ∨ (work.testBit y || (m i).testBit y) = true := by
      rcases hs with hs | rfl
      · rcases h.cl x y hx hy hs ht with e | e <;> rw [e] <;> simp
      · right; unfold tb at ht; rw [ht]; simp
    cases e1 : out.testBit y <;> cases e2 : decide (i = y) <;> rw [e1, e2] at this <;> simp_all
  · simp only [andN_bit h2 h1]; rw [hs]; simp
  · have h3 := cntB_lt (p := out.testBit) (q := (out ||| 2 ^ i).testBit) (y := i) 16 (fun p _ hp => by rw [Nat.testBit_or, hp]; rfl) hi hni (by rw [Nat.testBit_or, pow_bit]; simp)
    have h4 := cntB_le 16 (out ||| 2 ^ i).testBit
    omega

end Go.Proofs.YtbbbhalmlboapaaDoor.V
