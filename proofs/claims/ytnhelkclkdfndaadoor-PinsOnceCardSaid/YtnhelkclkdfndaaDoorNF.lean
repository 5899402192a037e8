/-
num of a law's package: an error's number.
-/
import Derived.Test.YtnhelkclkdfndaaDoorNA
namespace Go.Proofs.YtnhelkclkdfndaaDoor.Num
open Go Go.RowKit Go.Extern.Stop Go.Stop Go.Extern Go.Proofs

theorem num_nil (w : World) : Calls Tryd.prog 23 #[.nilIface] w fun e w' => e = .returned (.int .i64 0) ∧ w' = w.alloc (.cells #[.int .i64 0] 163) := by
  go_enter Tryd.func23, Tryd.ntmps23
  go_wp2
  go_ret
  exact ⟨rfl, rfl⟩

set_option maxHeartbeats 4000000 in
theorem num_hit (n : Int) (w : World) (hg : w.cell? ⟨0, 0, none⟩ = some (.iface 257 (.agg #[.pointer (some ⟨1, 33, none⟩)]))) :
    Calls Tryd.prog 23 #[.iface 163 (.int .i64 n)] w fun e w' => e = .returned (.int .i64 n) ∧ w' = asWorld (w.alloc (.cells #[.int .i64 0] 163)) ⟨w.heap.size, 0, none⟩ n := by
  have hlt : 0 < w.heap.size := by
    rcases Nat.eq_zero_or_pos w.heap.size with h0 | h
    · simp [World.cell?, h0] at hg
    · exact h
  have hgA : (w.alloc (.cells #[.int .i64 0] 163)).cell? ⟨0, 0, none⟩ = some (.iface 257 (.agg #[.pointer (some ⟨1, 33, none⟩)])) := by
    rw [World.cell?_alloc_lt _ _ ⟨0, 0, none⟩ hlt]; exact hg
  have htA : (w.alloc (.cells #[.int .i64 0] 163)).cell? ⟨w.heap.size, 0, none⟩ = some (.int .i64 0) := by simp
  have hfA : (w.alloc (.cells #[.int .i64 0] 163)).frozen? ⟨w.heap.size, 0, none⟩ = false := by simp
  have hcell : (asWorld (w.alloc (.cells #[.int .i64 0] 163)) ⟨w.heap.size, 0, none⟩ n).cell? ⟨w.heap.size, 0, none⟩ = some (.int .i64 n) := by
    unfold asWorld
    refine World.cell?_setCell_same (u := .int .i64 0) _ _ _ ?_
    rw [World.cell?_alloc_lt _ _ ⟨w.heap.size, 0, none⟩ (by simp; omega), World.cell?_alloc_lt _ _ ⟨w.heap.size, 0, none⟩ (by simp; omega), World.cell?_alloc_lt _ _ ⟨w.heap.size, 0, none⟩ (by simp; omega), World.cell?_alloc_lt _ _ ⟨w.heap.size, 0, none⟩ (by simp)]
    exact htA
  go_enter Tryd.func23, Tryd.ntmps23
  go_wp2_with (go_at_call 81; refine (as_hit n _ (.int .i64 0) _ hgA htA hfA).mono ?_; rintro e w' ⟨rfl, rfl⟩)
  go_ret
  exact ⟨rfl, rfl⟩

end Go.Proofs.YtnhelkclkdfndaaDoor.Num
