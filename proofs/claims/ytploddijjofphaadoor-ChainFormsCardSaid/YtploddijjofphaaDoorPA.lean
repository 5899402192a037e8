/-
chain.Pieces, by hand: slices.Chunk.
-/
import Derived.RangeFuncNested
import Derived.RangeFuncBox
import Derived.RangeFuncBound
import Derived.RangeFuncCalls
import Derived.RangeFuncLeaves
import Derived.Shelf.Abstract
import Derived.Shelf.RegionOpen
import Derived.WalkKit
import Derived.OwnWalkIn
import Derived.TacticsInMore
import Derived.LoopNIn
import Derived.LoopIn
import Derived.Maps.AppendAt
import Derived.Test.YtploddijjofphaaDoorProg
import Derived.KernelRfl
namespace Go.Proofs.YtploddijjofphaaDoor.Pie
open Go Go.RowKit Go.Shelf

attribute [local go_sem] Oper.semAt_some

set_option maxHeartbeats 1000000 in
/-- slices.Chunk: the slice and the number are boxed; the function value captures the boxes. -/
theorem chunk_in (F : Fence) (n : Nat) (h5 : F.fn 66) (hro : F.round = none) (a : Option Addr) (len cap : Nat) (w : World) :
    CallsIn F n Tryd.prog 66 #[.slice a len cap, .int .i64 502] w fun e w' => e = .returned (.func (.func 76) #[] #[.pointer (some ⟨w.heap.size, 0, none⟩), .pointer (some ⟨w.heap.size + 1, 0, none⟩)]) ∧
      w' = (w.alloc (.cells #[.slice a len cap] 64)).alloc (.cells #[.int .i64 502] 3) := by
  refine callsIn_of_wp Tryd.func66 rfl h5 ?_ hro
  simp only [Tryd.ntmps66, List.size_toArray, List.length_cons, List.length_nil, Nat.reduceAdd, Nat.reduceSub, Array.replicate_succ, Array.replicate_zero, List.push_toArray, List.append_toArray, List.nil_append, List.cons_append]
  gi_wp2
  go_ret
  exact ⟨rfl, rfl⟩

/-- The piece that comes as the k-th. -/
def encP (b len k : Nat) : Value := .slice (some ⟨b, 502 * k, none⟩) (min 502 (len - 502 * k)) (min 502 (len - 502 * k))
def cntP (n : Nat) : Nat := (n + 501) / 502

set_option maxRecDepth 100000 in
set_option maxHeartbeats 2000000 in
/-- slices.Chunk's closure, for every loop body that keeps its two boxes. -/
theorem chunk1_in (F : Fence) (n : Nat) (h7 : F.fn 76) (hro : F.round = none) (hn : 1 ≤ n) (l Bs Bn b len cap : Nat) (hlen : len ≤ cap) (hcap : len ≤ 100000) (Kp : World → World → Prop)
    (hK1 : ∀ W W', Kp W W' → W.cell? ⟨Bs, 0, none⟩ = some (.slice (some ⟨b, 0, none⟩) len cap) → W'.cell? ⟨Bs, 0, none⟩ = some (.slice (some ⟨b, 0, none⟩) len cap))
    (hK2 : ∀ W W', Kp W W' → W.cell? ⟨Bn, 0, none⟩ = some (.int .i64 502) → W'.cell? ⟨Bn, 0, none⟩ = some (.int .i64 502)) (J Jx : List Nat → World → Prop) (hJd : ∀ s W, J s W → J s W.drew)
    (hY : ∀ pre k W, J pre W → pre.length < cntP len → YieldAt F (n - 1) Tryd.prog l #[encP b len k] W fun e W' =>
      (e = .returned (.bool true) ∧ J (pre ++ [k]) W' ∧ Kp W W') ∨ (e = .returned (.bool false) ∧ Jx (pre ++ [k]) W'))
    (W : World) (hBs : W.cell? ⟨Bs, 0, none⟩ = some (.slice (some ⟨b, 0, none⟩) len cap)) (hBn : W.cell? ⟨Bn, 0, none⟩ = some (.int .i64 502)) (h0 : J [] W) :
    CallsIn F n Tryd.prog 76 #[.func (.yield l) #[] #[], .pointer (some ⟨Bs, 0, none⟩), .pointer (some ⟨Bn, 0, none⟩)] W fun e W' => (∃ v, e = .returned v) ∧
      ((∃ ys, ys = List.range (cntP len) ∧ J ys W') ∨ (∃ pre, Jx pre W')) := by
  refine callsIn_of_wp Tryd.func76 rfl h7 ?_ hro
  simp only [Tryd.ntmps76, List.size_toArray, List.length_cons, List.length_nil, Nat.reduceAdd, Nat.reduceSub, Array.replicate_succ, Array.replicate_zero, List.push_toArray, List.append_toArray, List.nil_append, List.cons_append]
  gi_wp2
  gi_loopw [4] (fun i wr => ∃ k : Nat, k ≤ cntP len ∧ i = .int .i64 ((502 * k : Nat) : Int) ∧ J (List.range k) wr ∧ wr.cell? ⟨Bs, 0, none⟩ = some (.slice (some ⟨b, 0, none⟩) len cap) ∧ wr.cell? ⟨Bn, 0, none⟩ = some (.int .i64 502))
    (fun i _ => 502 * cntP len - (intOf i).toNat)
  case atStart => exact ⟨0, Nat.zero_le _, rfl, h0, hBs, hBn⟩
  case round =>
    obtain ⟨k, hk, rfl, hJs, hs, hn2⟩ := hrel
    by_cases hlt : k < cntP len
    · obtain ⟨fn, tmps, assign, body, hy, hR⟩ := hY _ k wr.drew (hJd _ _ hJs) (by rw [List.length_range]; exact hlt)
      have hkl : 502 * k < len := by unfold cntP at hlt; omega
      dsimp only [encP] at hy
      have hc1 : ((502 * k : Nat) : Int) = 502 * (k : Int) := by omega
      have hck : ¬ cap = 502 * k := by omega
      have key : ∀ (W3 : World), Kp wr.drew W3 → W3.cell? ⟨Bs, 0, none⟩ = some (.slice (some ⟨b, 0, none⟩) len cap) ∧ W3.cell? ⟨Bn, 0, none⟩ = some (.int .i64 502) := fun W3 h => ⟨hK1 _ _ h hs, hK2 _ _ h hn2⟩
      gi_wp2
      gi_region
      all_goals gi_wp2
      all_goals (try (exfalso; omega))
      all_goals (first
        | rw [show (502 * (k : Int) + ((len - 502 * k : Nat) : Int)).toNat - 502 * k = min 502 (len - 502 * k) by omega, hy]
        | rw [show (502 * (k : Int) + 502).toNat - 502 * k = min 502 (len - 502 * k) by omega, hy])
      all_goals
        gi_wp2
        refine hR.mono ?_
        rintro e W3 (⟨rfl, hJ3, hk3⟩ | ⟨rfl, hJx3⟩)
        · obtain ⟨q1, q2⟩ := key W3 hk3
          gi_wp2
          go_roundw
          case rel => exact ⟨k + 1, by omega, by congr 1, by rw [List.range_succ]; exact hJ3, q1, q2⟩
          case measure => simp [intOf]; omega
        · gi_wp2
          refine bodyPost_ret (results_none rfl _ _ _) rfl ?_
          exact ⟨⟨_, rfl⟩, .inr ⟨_, hJx3⟩⟩
    · obtain rfl : k = cntP len := by omega
      have hge : ¬ 502 * cntP len < len := by unfold cntP; omega
      gi_wp2
      go_end0
      exact ⟨⟨_, rfl⟩, .inl ⟨_, rfl, hJs⟩⟩

end Go.Proofs.YtploddijjofphaaDoor.Pie
