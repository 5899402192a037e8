/-
The plain laws of spans.
-/
import Derived.Test.YtploddijjofphaaDoorKB
namespace Go.Proofs.YtploddijjofphaaDoor.V
open Go Go.RowKit
set_option linter.unusedSimpArgs false
set_option linter.unusedVariables false

def hasS (lo hi key : List UInt8) (op : Bool) : Bool := !lt key lo && (op || lt key hi)
def emptyS (lo hi : List UInt8) (op : Bool) : Bool := !op && (lt hi lo || hi == lo)
def withinS (alo ahi blo bhi : List UInt8) (aop bop : Bool) : Bool := emptyS alo ahi aop || (!emptyS blo bhi bop && !lt alo blo && (bop || (!aop && (lt ahi bhi || ahi == bhi))))
def beginsS (s p : List UInt8) : Bool := decide (p.length ≤ s.length) && s.take p.length == p

/-! ### Ranks: the order of some texts as one of numbers -/
def rankIn (S : List (List UInt8)) (x : List UInt8) : Nat := S.countP fun y => lt y x

theorem countP_lt {α : Type} {p q : α → Bool} {l : List α} (h : ∀ z, p z = true → q z = true) {x : α} (hx : x ∈ l) (hp : p x = false) (hq : q x = true) : l.countP p < l.countP q := by
  induction l with
  | nil => cases hx
  | cons a l ih =>
    rcases List.mem_cons.1 hx with rfl | hx
    · rw [List.countP_cons_of_neg (by simp [hp]), List.countP_cons_of_pos hq]
      exact Nat.lt_succ_of_le (List.countP_mono_left (fun z _ hz => h z hz))
    · have := ih hx
      by_cases ha : p a = true
      · rw [List.countP_cons_of_pos ha, List.countP_cons_of_pos (h a ha)]; omega
      · rw [List.countP_cons_of_neg ha]
        by_cases hb : q a = true
        · rw [List.countP_cons_of_pos hb]; omega
        · rw [List.countP_cons_of_neg hb]; exact this

theorem rank_lt {S : List (List UInt8)} {x y : List UInt8} (hx : x ∈ S) (h : lt x y = true) : rankIn S x < rankIn S y :=
  countP_lt (fun z hz => lt_trans hz h) hx (lt_irrefl x) h

theorem rank_lt_iff {S : List (List UInt8)} {x y : List UInt8} (hx : x ∈ S) (hy : y ∈ S) : lt x y = decide (rankIn S x < rankIn S y) := by
  cases h : lt x y with
  | true => simp [rank_lt hx h]
  | false =>
    cases h2 : lt y x with
    | true => have := rank_lt hy h2; simp; omega
    | false => rw [lt_total h h2]; simp

theorem rank_eq_iff {S : List (List UInt8)} {x y : List UInt8} (hx : x ∈ S) (hy : y ∈ S) : (x == y) = decide (rankIn S x = rankIn S y) := by
  by_cases h : x = y
  · subst h; simp
  · have : rankIn S x ≠ rankIn S y := fun e => by
      cases h1 : lt x y with
      | true => have := rank_lt hx h1; omega
      | false =>
        cases h2 : lt y x with
        | true => have := rank_lt hy h2; omega
        | false => exact h (lt_total h1 h2)
    simp [h, this]

theorem has_meet (alo ahi blo bhi x : List UInt8) (aop bop : Bool) : hasS (mLo alo blo) (mHi aop bop ahi bhi) x (aop && bop) = (hasS alo ahi x aop && hasS blo bhi x bop) := by
  have L : ∀ u, u ∈ [alo, ahi, blo, bhi, x] → ∀ v, v ∈ [alo, ahi, blo, bhi, x] → lt u v = decide (rankIn [alo, ahi, blo, bhi, x] u < rankIn [alo, ahi, blo, bhi, x] v) := fun u hu v hv => rank_lt_iff hu hv
  generalize rankIn [alo, ahi, blo, bhi, x] = r at L
  have e1 := L x (by simp) alo (by simp)
  have e2 := L x (by simp) ahi (by simp)
  have e3 := L x (by simp) blo (by simp)
  have e4 := L x (by simp) bhi (by simp)
  have e5 := L alo (by simp) blo (by simp)
  have e6 := L bhi (by simp) ahi (by simp)
  unfold hasS mLo mHi
  rw [e5, e6]
  cases aop <;> cases bop <;> simp only [Bool.and_self, Bool.and_true, Bool.and_false, Bool.true_and, Bool.false_and, Bool.true_or, Bool.false_or, Bool.false_eq_true, if_true, if_false, decide_eq_true_eq] <;> (repeat' split) <;>
    simp only [e1, e2, e3, e4] <;> rw [Bool.eq_iff_iff] <;> simp only [Bool.and_eq_true, Bool.not_eq_true', decide_eq_true_eq, decide_eq_false_iff_not] <;> omega

theorem has_lo {lo hi : List UInt8} {op : Bool} (h : emptyS lo hi op = false) : hasS lo hi lo op = true := by
  have e1 := rank_lt_iff (S := [lo, hi]) (x := hi) (y := lo) (by simp) (by simp)
  have e2 := rank_eq_iff (S := [lo, hi]) (x := hi) (y := lo) (by simp) (by simp)
  have e3 := rank_lt_iff (S := [lo, hi]) (x := lo) (y := hi) (by simp) (by simp)
  generalize rankIn [lo, hi] = r at e1 e2 e3
  unfold emptyS at h
  unfold hasS
  rw [e1, e2] at h
  rw [e3, lt_irrefl]
  cases op <;> simp at h ⊢
  omega

theorem no_has {lo hi x : List UInt8} {op : Bool} (h : emptyS lo hi op = true) : hasS lo hi x op = false := by
  have L : ∀ u, u ∈ [lo, hi, x] → ∀ v, v ∈ [lo, hi, x] → lt u v = decide (rankIn [lo, hi, x] u < rankIn [lo, hi, x] v) := fun u hu v hv => rank_lt_iff hu hv
  have e2 := rank_eq_iff (S := [lo, hi, x]) (x := hi) (y := lo) (by simp) (by simp)
  have e1 := L hi (by simp) lo (by simp)
  have e3 := L x (by simp) lo (by simp)
  have e4 := L x (by simp) hi (by simp)
  generalize rankIn [lo, hi, x] = r at e1 e2 e3 e4
  unfold emptyS at h
  unfold hasS
  rw [e1, e2] at h
  rw [e3, e4]
  cases op <;> simp at h ⊢
  omega

theorem has_of_within {alo ahi blo bhi x : List UInt8} {aop bop : Bool} (hw : withinS alo ahi blo bhi aop bop = true) (hx : hasS alo ahi x aop = true) : hasS blo bhi x bop = true := by
  unfold withinS at hw
  cases he : emptyS alo ahi aop with
  | true => rw [no_has he] at hx; cases hx
  | false =>
    have L : ∀ u, u ∈ [alo, ahi, blo, bhi, x] → ∀ v, v ∈ [alo, ahi, blo, bhi, x] → lt u v = decide (rankIn [alo, ahi, blo, bhi, x] u < rankIn [alo, ahi, blo, bhi, x] v) := fun u hu v hv => rank_lt_iff hu hv
    have e7 := rank_eq_iff (S := [alo, ahi, blo, bhi, x]) (x := ahi) (y := bhi) (by simp) (by simp)
    have e1 := L x (by simp) alo (by simp)
    have e2 := L x (by simp) ahi (by simp)
    have e3 := L x (by simp) blo (by simp)
    have e4 := L x (by simp) bhi (by simp)
    have e5 := L alo (by simp) blo (by simp)
    have e6 := L ahi (by simp) bhi (by simp)
    generalize rankIn [alo, ahi, blo, bhi, x] = r at e1 e2 e3 e4 e5 e6 e7
    rw [he] at hw
    unfold hasS at hx ⊢
    rw [e5, e6, e7] at hw
    rw [e1, e2] at hx
    rw [e3, e4]
    cases aop <;> cases bop <;> simp at hw hx ⊢ <;> omega

theorem within_of_has {alo ahi blo bhi : List UInt8} {aop bop : Bool} (h : ∀ x, hasS alo ahi x aop = true → hasS blo bhi x bop = true) : withinS alo ahi blo bhi aop bop = true := by
  unfold withinS
  cases he : emptyS alo ahi aop with
  | true => rfl
  | false =>
    have h1 := h alo (has_lo he)
    have hb : emptyS blo bhi bop = false := by
      cases hb : emptyS blo bhi bop with
      | false => rfl
      | true => rw [no_has hb] at h1; cases h1
    have h2 := h bhi
    have L : ∀ u, u ∈ [alo, ahi, blo, bhi] → ∀ v, v ∈ [alo, ahi, blo, bhi] → lt u v = decide (rankIn [alo, ahi, blo, bhi] u < rankIn [alo, ahi, blo, bhi] v) := fun u hu v hv => rank_lt_iff hu hv
    have e7 := rank_eq_iff (S := [alo, ahi, blo, bhi]) (x := ahi) (y := bhi) (by simp) (by simp)
    have e1 := L alo (by simp) blo (by simp)
    have e2 := L alo (by simp) bhi (by simp)
    have e3 := L bhi (by simp) alo (by simp)
    have e4 := L bhi (by simp) ahi (by simp)
    have e5 := L bhi (by simp) blo (by simp)
    have e6 := L ahi (by simp) bhi (by simp)
    generalize rankIn [alo, ahi, blo, bhi] = r at e1 e2 e3 e4 e5 e6 e7
    unfold hasS at h1 h2
    rw [e1, e2] at h1
    rw [e3, e4, e5, lt_irrefl] at h2
    rw [e1, e6, e7, hb]
    cases aop <;> cases bop <;> simp at h1 h2 ⊢ <;> omega

/-! ### The span of a prefix -/
theorem begins_cons (x y : UInt8) (s p : List UInt8) : beginsS (x :: s) (y :: p) = (x == y && beginsS s p) := by
  unfold beginsS
  simp only [List.length_cons, List.take_succ_cons, Nat.add_le_add_iff_right, List.cons_beq_cons]
  cases decide (p.length ≤ s.length) <;> simp

theorem topN_cons (x : UInt8) (r : List UInt8) : ∀ n, topN (x :: r) (n + 1) = match topN r n with
    | 0 => if x = 255 then 0 else 1
    | k + 1 => k + 2
  | 0 => by simp [topN]
  | n + 1 => by
    have ih := topN_cons x r n
    by_cases h : r[n]? = some 255
    · rw [topN_ok h, ← ih]
      rw [topN_ok (by simpa using h)]
    · rw [topN_hit h, topN_hit (by simpa using h)]

theorem ge_all : ∀ (l : List UInt8), topN l l.length = 0 → ∀ key, (!lt key l) = beginsS key l
  | [], _, key => by cases key <;> simp [lt, Op.bytesLess, beginsS]
  | x :: r, h, key => by
    have hc := topN_cons x r r.length
    rw [List.length_cons] at h
    rw [h] at hc
    split at hc
    · rename_i hr
      split at hc
      · rename_i hx
        subst hx
        have ih := ge_all r hr
        cases key with
        | nil => simp [lt, Op.bytesLess, beginsS]
        | cons y k =>
          rw [begins_cons, ← ih k]
          by_cases hy : y = 255
          · subst hy; simp [lt, Op.bytesLess]
          · have : y < 255 := by
              have h1 := y.toNat_lt
              have h2 : y.toNat ≠ 255 := fun e => hy (UInt8.toNat_inj.1 (by simpa using e))
              rw [UInt8.lt_iff_toNat_lt]; simp; omega
            simp [lt, Op.bytesLess, hy, this]
      · cases hc
    · cases hc

theorem lt_succ {y x : UInt8} (hx : x ≠ 255) : y < x + 1 ↔ ¬ x < y := by
  have h1 : x.toNat < 255 := by
    have := x.toNat_lt
    have : x.toNat ≠ 255 := fun e => hx (UInt8.toNat_inj.1 (by simpa using e))
    omega
  have h2 : (x + 1).toNat = x.toNat + 1 := by rw [UInt8.toNat_add]; simp; omega
  rw [UInt8.lt_iff_toNat_lt, UInt8.lt_iff_toNat_lt, h2]; omega

theorem in_span : ∀ (l : List UInt8) (m : Nat), topN l l.length = m + 1 → ∀ key, (!lt key l && lt key (hiS l m)) = beginsS key l
  | [], m, h, key => by simp [topN] at h
  | x :: r, m, h, key => by
    have hc := topN_cons x r r.length
    rw [List.length_cons] at h
    rw [h] at hc
    split at hc
    · rename_i hr
      split at hc
      · cases hc
      · rename_i hx
        injection hc with hc; subst hc
        have hh : hiS (x :: r) 0 = [x + 1] := by simp [hiS]
        rw [hh]
        cases key with
        | nil => simp [lt, Op.bytesLess, beginsS]
        | cons y k =>
          rw [begins_cons, ← ge_all r hr k]
          have hs := lt_succ (y := y) hx
          by_cases hxy : y = x
          · subst hxy
            have : ¬ y < y := UInt8.lt_irrefl y
            simp [lt, Op.bytesLess, hs]
          · rcases UInt8.lt_or_lt_of_ne hxy with h1 | h1
            · simp [lt, Op.bytesLess, hxy, h1]
            · have h2 : ¬ y < x + 1 := fun h => hs.1 h h1
              have h3 : lt k [] = false := by cases k <;> rfl
              simp only [lt] at h3
              simp [lt, Op.bytesLess, hxy, h2, h3]
    · rename_i k hr
      injection hc with hc; subst hc
      have hh : hiS (x :: r) (k + 1) = x :: hiS r k := by simp [hiS]
      rw [hh]
      cases key with
      | nil => simp [lt, Op.bytesLess, beginsS]
      | cons y ks =>
        rw [begins_cons, ← in_span r k hr ks]
        by_cases hxy : y = x
        · subst hxy; simp [lt, Op.bytesLess]
        · rcases UInt8.lt_or_lt_of_ne hxy with h1 | h1
          · simp [lt, Op.bytesLess, hxy, h1]
          · have h2 : ¬ y < x := fun h => UInt8.lt_irrefl _ (UInt8.lt_trans h h1)
            have h3 : (y == x) = false := by simpa using hxy
            simp [lt, Op.bytesLess, h2, h3]

/-- Of a prefix just those texts are within that begin with it. -/
theorem has_of (l : List UInt8) : ∃ lo hi op, ofS l = spD lo hi op ∧ ∀ key, hasS lo hi key op = beginsS key l := by
  unfold ofS
  cases h : topN l l.length with
  | zero => exact ⟨_, _, _, rfl, fun key => by simp only [hasS, Bool.true_or, Bool.and_true]; exact ge_all l h key⟩
  | succ m => exact ⟨_, _, _, rfl, fun key => by simp only [hasS, Bool.false_or]; exact in_span l m h key⟩

theorem begins_append {x p k : List UInt8} (h : beginsS x (p ++ k) = true) : beginsS x p = true := by
  unfold beginsS at h ⊢
  simp only [List.length_append, Bool.and_eq_true, decide_eq_true_eq, beq_iff_eq] at h ⊢
  obtain ⟨h1, h2⟩ := h
  refine ⟨by omega, ?_⟩
  have := congrArg (List.take p.length) h2
  rw [List.take_take, List.take_left'] at this
  · rwa [Nat.min_eq_left (by omega)] at this
  · rfl

theorem lt_next : ∀ key : List UInt8, lt key (key ++ [0]) = true
  | [] => rfl
  | x :: k => by
    have := lt_next k
    simp only [List.cons_append]
    rw [lt_cons]; exact .inr ⟨rfl, this⟩

theorem none_between : ∀ (key p : List UInt8), (lt key p && lt p (key ++ [0])) = false
  | [], [] => rfl
  | [], x :: p => by
    have h1 : ¬ x < 0 := by rw [UInt8.lt_iff_toNat_lt]; simp
    have h2 : lt p [] = false := by cases p <;> rfl
    simp only [lt] at h2
    simp [lt, Op.bytesLess, h1, h2]
  | x :: k, [] => by simp [lt, Op.bytesLess]
  | x :: k, y :: p => by
    have ih := none_between k p
    by_cases hxy : x = y
    · subst hxy
      simpa [lt, Op.bytesLess] using ih
    · rcases UInt8.lt_or_lt_of_ne hxy with h1 | h1
      · have h2 : ¬ y < x := fun h => UInt8.lt_irrefl _ (UInt8.lt_trans h h1)
        simp [lt, Op.bytesLess, h2, Ne.symm hxy]
      · have h2 : ¬ x < y := fun h => UInt8.lt_irrefl _ (UInt8.lt_trans h h1)
        simp [lt, Op.bytesLess, h2, hxy]

end Go.Proofs.YtploddijjofphaaDoor.V
