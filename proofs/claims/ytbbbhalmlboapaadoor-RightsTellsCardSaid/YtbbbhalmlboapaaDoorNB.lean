/-
num of a law's package: an error's number.
-/
import Derived.Test.YtbbbhalmlboapaaDoorNA
namespace Go.Proofs.YtbbbhalmlboapaaDoor.Num
open Go Go.RowKit Go.Extern.Stop Go.Stop Go.Extern Go.Proofs

theorem num_nil (w : World) : Calls Tryd.prog 20 #[.nilIface] w fun e w' => e = .returned (.int .i64 0) ∧ w' = w.alloc (.cells #[.int .i64 0] 102) := by
  go_enter Tryd.func20, Tryd.ntmps20
  go_wp2
  go_ret
  exact ⟨rfl, rfl⟩

set_option maxHeartbeats 4000000 in
theorem num_hit (n : Int) (w : World) (hg : w.cell? ⟨0, 0, none⟩ = some (.iface 140 (.agg #[.pointer (some ⟨2, 24, none⟩)]))) :
    Calls Tryd.prog 20 #[.iface 102 (.int .i64 n)] w fun e w' => e = .returned (.int .i64 n) ∧ w' = asWorld (w.alloc (.cells #[.int .i64 0] 102)) ⟨w.heap.size, 0, none⟩ n := by
  have hlt : 0 < w.heap.size := by
    rcases Nat.eq_zero_or_pos w.heap.size with h0 | h
    · simp [World.cell?, h0] at hg
    · exact h
  have hgA : (w.alloc (.cells #[.int .i64 0] 102)).cell? ⟨0, 0, none⟩ = some (.iface 140 (.agg #[.pointer (some ⟨2, 24, none⟩)])) := by
    rw [World.cell?_alloc_lt _ _ ⟨0, 0, none⟩ hlt]; exact hg
  have htA : (w.alloc (.cells #[.int .i64 0] 102)).cell? ⟨w.heap.size, 0, none⟩ = some (.int .i64 0) := by simp
  have hfA : (w.alloc (.cells #[.int .i64 0] 102)).frozen? ⟨w.heap.size, 0, none⟩ = false := by simp
  have hcell : (asWorld (w.alloc (.cells #[.int .i64 0] 102)) ⟨w.heap.size, 0, none⟩ n).cell? ⟨w.heap.size, 0, none⟩ = some (.int .i64 n) := by
    unfold asWorld
    refine World.cell?_setCell_same (u := .int .i64 0) _ _ _ ?_
    rw [World.cell?_alloc_lt _ _ ⟨w.heap.size, 0, none⟩ (by simp; omega), World.cell?_alloc_lt _ _ ⟨w.heap.size, 0, none⟩ (by simp; omega), World.cell?_alloc_lt _ _ ⟨w.heap.size, 0, none⟩ (by simp; omega), World.cell?_alloc_lt _ _ ⟨w.heap.size, 0, none⟩ (by simp)]
    exact htA
  go_enter Tryd.func20, Tryd.ntmps20
  go_wp2_with (go_at_call 64; refine (as_hit n _ (.int .i64 0) _ hgA htA hfA).mono ?_; rintro e w' ⟨rfl, rfl⟩)
  go_ret
  exact ⟨rfl, rfl⟩

end Go.Proofs.YtbbbhalmlboapaaDoor.Num
