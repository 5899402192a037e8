/-
Layer 18: one more reader, in plain law.
-/
import Derived.Test.YtnhelkclkdfndaaDoorRJ
namespace Go.Proofs.YtnhelkclkdfndaaDoor.V
open Go Go.RowKit

theorem app_lt {l : List Pn} {p : Pn} {i : Nat} (h : i < l.length) : (l ++ [p]).getD i default = l.getD i default := by
  rw [List.getD_eq_getElem?_getD, List.getD_eq_getElem?_getD, List.getElem?_append_left h]
theorem app_at {l : List Pn} {p : Pn} : (l ++ [p]).getD l.length default = p := by
  rw [List.getD_eq_getElem?_getD, List.getElem?_append_right (Nat.le_refl _), Nat.sub_self]; rfl
theorem may_app {n : Nat} {l : List Pn} (h : mayP n l = true) (h1 : l.length < 8) (h2 : n < 4611686018427387904) (sq : Nat) (s : Nat → Nat) : mayP (n + 1) (l ++ [(⟨n + 1, sq, s⟩ : Pn)]) = true := by
  obtain ⟨_, _, _, hb⟩ := may_sort h
  have h3 : allB l.length (atP n l) = true := by
    unfold mayP at h
    simp only [Bool.and_eq_true] at h
    exact h.2
  rw [allB_iff] at h3
  unfold mayP
  rw [decide_eq_true (show n + 1 ≤ 4611686018427387904 by omega), decide_eq_true (show (l ++ [(⟨n + 1, sq, s⟩ : Pn)]).length ≤ 8 by simp; omega), Bool.true_and, Bool.true_and, allB_iff]
  intro i hi
  simp at hi
  unfold atP
  rcases Nat.lt_or_ge i l.length with hh | hh
  · have := h3 i hh
    unfold atP at this
    have ea : ahP (l ++ [(⟨n + 1, sq, s⟩ : Pn)]) i = ahP l i := by
      unfold ahP
      by_cases h0 : i = 0
      · rw [if_pos h0, if_pos h0]
      · rw [if_neg h0, if_neg h0, app_lt (by omega)]
    rw [ea, app_lt hh]
    simp only [Bool.and_eq_true, decide_eq_true_eq] at this ⊢
    exact ⟨this.1, by omega⟩
  · obtain rfl : i = l.length := by omega
    rw [app_at]
    simp only [Bool.and_eq_true, decide_eq_true_eq]
    refine ⟨?_, Nat.le_refl _⟩
    unfold ahP
    by_cases h0 : l.length = 0
    · rw [if_pos h0]; omega
    · rw [if_neg h0, app_lt (by omega)]
      have := (hb (l.length - 1) (by omega)).2
      unfold idP at this
      omega
theorem is_app {n : Nat} {l : List Pn} (sq : Nat) (s : Nat → Nat) : isP (l ++ [(⟨n + 1, sq, s⟩ : Pn)]) (n + 1) l.length := ⟨by simp, by unfold idP; rw [app_at]⟩
theorem cut_app {l : List Pn} {p : Pn} : cutL (l ++ [p]) l.length = l := by
  unfold cutL; simp
theorem held_app {l : List Pn} {p : Pn} : ∀ k, k ≤ l.length → heldK (l ++ [p]) k = heldK l k
  | 0, _ => rfl
  | k + 1, h => by rw [heldK, heldK, held_app k (by omega), app_lt (by omega)]

end Go.Proofs.YtnhelkclkdfndaaDoor.V
