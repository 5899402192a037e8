/-
Layer 18: readers that come and go, in plain law.
-/
import Derived.Test.YtnhelkclkdfndaaDoorRK
namespace Go.Proofs.YtnhelkclkdfndaaDoor.V
open Go Go.RowKit

theorem mem_zero (x : Nat) : mem (fun _ => 0) x = false := by unfold mem; simp
/-- Whether one of the first k holds it. -/
def someK (l : List Pn) (x : Nat) : Nat → Bool
  | 0 => false
  | k + 1 => someK l x k || mem (l.getD k default).pg x
theorem mem_held (l : List Pn) (x : Nat) : ∀ k, mem (heldK l k) x = someK l x k
  | 0 => mem_zero x
  | k + 1 => by rw [heldK, mem_eith, mem_held l x k, someK]

theorem may_of {n : Nat} {l : List Pn} (hs : SortP l) (h8 : l.length ≤ 8) (hn : n ≤ 4611686018427387904) (hb : ∀ i, i < l.length → 1 ≤ idP l i ∧ idP l i ≤ n) : mayP n l = true := by
  unfold mayP
  rw [decide_eq_true hn, decide_eq_true h8, Bool.true_and, Bool.true_and, allB_iff]
  intro i hi
  unfold atP
  have h1 := hb i hi
  have h2 : ahP l i < idP l i := by
    unfold ahP
    by_cases h0 : i = 0
    · rw [if_pos h0]; omega
    · rw [if_neg h0]; exact hs (i - 1) i (by omega) hi
  unfold idP at h1 h2
  rw [decide_eq_true h2, decide_eq_true h1.2]; rfl
theorem cut_len {l : List Pn} {k : Nat} (h : k < l.length) : (cutL l k).length = l.length - 1 := by
  unfold cutL; rw [List.length_append, List.length_take, List.length_drop]; omega
theorem cut_get {l : List Pn} {k : Nat} (h : k < l.length) (i : Nat) : (cutL l k).getD i default = l.getD (if i < k then i else i + 1) default := by
  unfold cutL
  rw [List.getD_eq_getElem?_getD, List.getD_eq_getElem?_getD, List.getElem?_append, List.length_take, Nat.min_eq_left (Nat.le_of_lt h)]
  by_cases hi : i < k
  · rw [if_pos hi, if_pos hi, List.getElem?_take_of_lt hi]
  · rw [if_neg hi, if_neg hi, List.getElem?_drop, show k + 1 + (i - k) = i + 1 by omega]
theorem may_cut {n : Nat} {l : List Pn} {k : Nat} (hm : mayP n l = true) (h : k < l.length) : mayP n (cutL l k) = true := by
  obtain ⟨hs, h8, hn, hb⟩ := may_sort hm
  have hl := cut_len h
  refine may_of (fun i j hij hj => ?_) (by omega) hn (fun i hi => ?_)
  · unfold idP
    rw [cut_get h, cut_get h]
    refine hs _ _ ?_ ?_
    · split <;> split <;> omega
    · split <;> omega
  · unfold idP
    rw [cut_get h]
    exact hb _ (by split <;> omega)
theorem wd_cut {l : List Pn} {k : Nat} (hw : WdL l) : WdL (cutL l k) := fun p hp => by
  unfold cutL at hp
  rcases List.mem_append.1 hp with hp | hp
  · exact hw p (List.mem_of_mem_take hp)
  · exact hw p (List.mem_of_mem_drop hp)
theorem wd_app {l : List Pn} {p : Pn} (hw : WdL l) (hp : Wds p.pg) : WdL (l ++ [p]) := fun q hq => by
  rcases List.mem_append.1 hq with hq | hq
  · exact hw q hq
  · rw [List.mem_singleton] at hq; subst hq; exact hp

/-- The numbers of those that are there, and of all that ever were. -/
def idsD (l : List Pn) : List D := l.map fun p => D.int .u64 (p.id : Nat)
def seeD (n : Nat) : List D := (List.range n).map fun j => D.int .u64 ((j + 1 : Nat) : Int)
theorem ids_len (l : List Pn) : (idsD l).length = l.length := List.length_map ..
theorem see_len (n : Nat) : (seeD n).length = n := by simp [seeD]
theorem ids_get {l : List Pn} {k : Nat} (h : k < l.length) : (idsD l)[k]? = some (.int .u64 ((idP l k : Nat) : Int)) := by
  unfold idsD idP
  rw [List.getElem?_map, List.getD_eq_getElem?_getD, List.getElem?_eq_getElem h]; rfl
theorem see_get {n k : Nat} (h : k < n) : (seeD n)[k]? = some (.int .u64 ((k + 1 : Nat) : Int)) := by
  unfold seeD
  rw [List.getElem?_map, List.getElem?_range h]; rfl
theorem ids_app (l : List Pn) (p : Pn) : idsD l ++ [.int .u64 (p.id : Nat)] = idsD (l ++ [p]) := by simp [idsD]
theorem see_app (n : Nat) : seeD n ++ [.int .u64 ((n + 1 : Nat) : Int)] = seeD (n + 1) := by simp [seeD, List.range_succ]
theorem ids_cut (l : List Pn) (k : Nat) : (idsD l).take k ++ (idsD l).drop (k + 1) = idsD (cutL l k) := by
  unfold idsD cutL; rw [List.map_append, List.map_take, List.map_drop]
theorem ids_cut0 (l : List Pn) (k : Nat) : [] ++ (idsD l).take k ++ (idsD l).drop (k + 1) = idsD (cutL l k) := ids_cut l k

end Go.Proofs.YtnhelkclkdfndaaDoor.V
