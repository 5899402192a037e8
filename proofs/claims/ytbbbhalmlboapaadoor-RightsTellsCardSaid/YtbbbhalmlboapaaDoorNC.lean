/-
num, for the interpreter.
-/
import Derived.Test.YtbbbhalmlboapaaDoorNB
import Derived.Test.YtbbbhalmlboapaaDoorXD
import Derived.Test.YtbbbhalmlboapaaDoorTY
namespace Go.Proofs.YtbbbhalmlboapaaDoor.V
open Go Go.RowKit

/-- An error's number. -/
def numV : List D → Hp → Option (D × Hp)
  | [.nili], B => some (.int .i64 0, B)
  | [.iface t (.int .i64 n)], B => bif Nat.beq t 102 then some (.int .i64 n, B) else .none
  | _, _ => .none

/-- What must hold of the world in which the whole begins: errors.errorType is laid. -/
def laidAt (c : Cx) : Prop := 0 < c.base ∧ c.w0.cell? ⟨0, 0, none⟩ = some (.iface 140 (.agg #[.pointer (some ⟨2, 24, none⟩)]))

theorem asWorld_keeps (w : World) (n : Int) : (∀ k, k < w.heap.size → (Num.asWorld (w.alloc (.cells #[.int .i64 0] 102)) ⟨w.heap.size, 0, none⟩ n).heap[k]? = w.heap[k]?) ∧
    w.heap.size ≤ (Num.asWorld (w.alloc (.cells #[.int .i64 0] 102)) ⟨w.heap.size, 0, none⟩ n).heap.size := by
  unfold Num.asWorld
  refine ⟨fun k hk => ?_, by simp; omega⟩
  rw [Below.heap_setCell _ _ _ k (Nat.ne_of_lt hk)]
  rw [Below.heap_alloc _ _ k (by simp; omega), Below.heap_alloc _ _ k (by simp; omega), Below.heap_alloc _ _ k (by simp; omega), Below.heap_alloc _ _ k (by simp; omega), Below.heap_alloc _ _ k hk]

/-- What is known by hand. -/
def prims : Callees := upd noCallees 20 numV

theorem prims_ok {c : Cx} (hP : c.P = Tryd.prog) (hl : laidAt c) : CallOK c prims := by
  refine CallOK.none.prim ⟨Tryd.f20, by rw [hP]; exact Tryd.func20, by kernel_rfl, by kernel_rfl⟩ (fun args B r B' h w g vs ks hf ha hnd hnb => ?_)
  unfold numV at h
  split at h
  · injection h with h; injection h with h1 h2; subst h1; subst h2
    obtain ⟨v, rfl, hr⟩ := one_arg ha
    have hr := repC_plain rfl hr
    cases hr
    rw [hP]
    refine (Num.num_nil w).mono (fun e w' he => ?_)
    obtain ⟨rfl, rfl⟩ := he
    exact ⟨_, rfl, g, [], hf.scratch (fun k hk => Below.heap_alloc w _ k hk) (by simp) rfl rfl rfl, .one _ _ _ (.one _ _ _ (.clean _ _ (.int _ _))), List.nodup_nil, fun k hk => by cases hk⟩
  · rename_i B0 t n
    cases hb : Nat.beq t 102 with
    | false => rw [hb] at h; cases h
    | true =>
      rw [hb] at h
      simp only [cond_true] at h
      injection h with h; injection h with h1 h2; subst h1; subst h2
      obtain rfl := beq_of hb
      obtain ⟨v, rfl, hr⟩ := one_arg ha
      have hr := repC_plain rfl hr
      cases hr with
      | iface _ _ u hu =>
        cases hu
        rw [hP]
        have hg : w.cell? ⟨0, 0, none⟩ = some (.iface 140 (.agg #[.pointer (some ⟨2, 24, none⟩)])) := by
          rw [World.cell?_of_block (w := c.w0) (hf.below.block 0 hl.1)]; exact hl.2
        refine (Num.num_hit n w hg).mono (fun e w' he => ?_)
        obtain ⟨rfl, rfl⟩ := he
        obtain ⟨k1, k2⟩ := asWorld_keeps w n
        exact ⟨_, rfl, g, [], hf.scratch k1 k2 rfl rfl rfl, .one _ _ _ (.one _ _ _ (.clean _ _ (.int _ _))), List.nodup_nil, fun k hk => by cases hk⟩
  · cases h

theorem prims_none {f : FuncId} (h : Nat.beq 20 f = false) (args : List D) (B : Hp) : prims f args B = .none := by
  unfold prims V.upd
  rw [h]; rfl

theorem prims_num (n : Nat) (B : Hp) : prims 20 [errD n] B = some (.int .i64 n, B) := by
  rcases errD_cases n with ⟨h0, h⟩ | ⟨h0, h⟩ <;> rw [h]
  · subst h0; rfl
  · rfl

end Go.Proofs.YtbbbhalmlboapaaDoor.V
