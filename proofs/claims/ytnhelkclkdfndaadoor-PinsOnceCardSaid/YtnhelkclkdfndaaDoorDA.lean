/-
slices.Delete of one pin, by hand: the call.
-/
import Derived.Shelf.RegionOpenPlain
import Derived.WalkKit
import Derived.Deep.LoopGhost
import Derived.Deep.RegionLaw
import Derived.Lib.Walk
import Derived.Sort.WalkB12
import Derived.Lib.SliceRun
import Derived.Test.YtnhelkclkdfndaaDoorProg
import Derived.Test.YtnhelkclkdfndaaDoorUF
import Derived.KernelRfl
namespace Go.Proofs.YtnhelkclkdfndaaDoor.Del
open Go Go.RowKit Go.Lib Go.Sort

/-- 'clear(s)' of elements of any number of cells. -/
theorem clear_any {P : Program} (w : World) (t e ty : TypeId) (z : Value) (ht : P.underlying t = some (.slice e)) (hv : ∀ w, (zeroValue e).run P w = .ok z w) (b o n c : Nat) (hn : 0 < n)
    (h1 : ∀ v ∈ (Builtin.zeroCells z.cells n).toList, v.oneCell' = true) (hc : ∀ j, j < (Builtin.zeroCells z.cells n).toList.length → (w.cell? ⟨b, o + j, none⟩).isSome = true) (hf : ∀ j, j < (Builtin.zeroCells z.cells n).toList.length → w.frozen? ⟨b, o + j, none⟩ = false) :
    (Builtin.clear_ #[t] ty #[.slice (some ⟨b, o, none⟩) n c]).run P w = .ok (.tuple #[]) (w.setCells b o (Builtin.zeroCells z.cells n).toList) := by
  have hst := run_storeCells_cells (P := P) b o (Builtin.zeroCells z.cells n).toList 0 w (by simpa using hc) (by simpa using hf) h1
  simp only [Nat.add_zero] at hst
  obtain ⟨m, rfl⟩ : ∃ m, n = m + 1 := ⟨n - 1, by omega⟩
  simp [Builtin.clear_, run_underlying ht, hv, hst]

/-- Stores of cells, one behind the other: the block. -/
theorem setCells_heap (k : Nat) : ∀ (vs : List Value) (o : Nat) (w : World) (cs : Array Value) (t : TypeId) (fr : Nat × Nat), w.heap[k]? = some (.cells cs t fr) → o + vs.length ≤ cs.size →
    ∃ cs', (w.setCells k o vs).heap[k]? = some (.cells cs' t fr) ∧ cs'.size = cs.size ∧ (∀ j : Nat, cs'[j]? = if o ≤ j ∧ j < o + vs.length then vs[j - o]? else cs[j]?) ∧
      (∀ q, q ≠ k → (w.setCells k o vs).heap[q]? = w.heap[q]?) ∧ (w.setCells k o vs).heap.size = w.heap.size ∧ (w.setCells k o vs).os = w.os ∧ (w.setCells k o vs).tape = w.tape ∧ (w.setCells k o vs).output = w.output
  | [], o, w, cs, t, fr, h, _ => ⟨cs, h, rfl, fun j => by rw [if_neg (by simp only [List.length_nil]; omega)], fun _ _ => rfl, rfl, rfl, rfl, rfl⟩
  | v :: r, o, w, cs, t, fr, h, hl => by
    simp at hl
    have h1 := V.setCell_heap w k o v cs t fr h
    obtain ⟨cs', e1, e2, e3, e4, e5, e6, e7, e8⟩ := setCells_heap k r (o + 1) _ _ t fr h1 (by simp; omega)
    refine ⟨cs', e1, by rw [e2]; simp, fun j => ?_, fun q hq => by rw [World.setCells, e4 q hq, V.setCell_other _ _ _ _ _ hq], by rw [World.setCells, e5]; simp [World.setCell], e6, e7, e8⟩
    rw [e3, Array.getElem?_setIfInBounds]
    by_cases c1 : o = j
    · subst c1
      rw [if_neg (show ¬ (o + 1 ≤ o ∧ o < o + 1 + r.length) by omega), if_pos rfl, if_pos (show o < cs.size by omega), if_pos (show o ≤ o ∧ o < o + (v :: r).length by simp), Nat.sub_self]; rfl
    · by_cases c2 : o + 1 ≤ j ∧ j < o + 1 + r.length
      · rw [if_pos c2, if_pos (by simp; omega), show j - o = (j - (o + 1)) + 1 by omega, List.getElem?_cons_succ]
      · rw [if_neg c2, if_neg c1, if_neg (by simp; omega)]

def zPin : List Value := List.replicate 18 (.int .u64 0)
theorem zeros_pin : (Builtin.zeroCells (Value.cells (.agg #[.int .u64 0, .int .u64 0, .int .u64 0, .int .u64 0, .int .u64 0, .int .u64 0, .int .u64 0, .int .u64 0, .int .u64 0, .int .u64 0, .int .u64 0, .int .u64 0, .int .u64 0, .int .u64 0, .int .u64 0, .int .u64 0, .int .u64 0, .int .u64 0])) 1).toList = zPin := by kernel_rfl

set_option maxHeartbeats 4000000 in
set_option maxRecDepth 1000000 in
theorem delete_calls (k cap i j n : Nat) (hj1 : j = i + 1) (hi : i < n) (hn : n ≤ cap) (hm : n ≤ 4611686018427387904) (w : World) (cs : Array Value) (t : TypeId) (hh : w.heap[k]? = some (.cells cs t (0, 0))) (hcs : cs.size = cap * 18)
    (h1 : ∀ x v, x < n * 18 → cs[x]? = some v → v.oneCell' = true) :
    Calls Tryd.prog 80 #[.slice (some ⟨k, 0, none⟩) n cap, .int .i64 i, .int .i64 j] w fun e w' => e = .returned (.slice (some ⟨k, 0, none⟩) (n - 1) cap) ∧
      ∃ cs', w'.heap[k]? = some (.cells cs' t (0, 0)) ∧ cs'.size = cs.size ∧ (∀ x, x < (n - 1) * 18 → cs'[x]? = if x < i * 18 then cs[x]? else cs[x + 18]?) ∧
        (∀ q, q ≠ k → w'.heap[q]? = w.heap[q]?) ∧ w'.heap.size = w.heap.size ∧ w'.os = w.os ∧ w'.tape = w.tape ∧ w'.output = w.output := by
  have hcell : ∀ o, w.drew.cell? ⟨k, o, none⟩ = cs[o]? := fun o => by
    show w.cell? ⟨k, o, none⟩ = _
    simp [World.cell?, hh]
  have hfro : ∀ o, w.drew.frozen? ⟨k, o, none⟩ = false := fun o => by
    show w.frozen? ⟨k, o, none⟩ = _
    simp [World.frozen?, hh]
  obtain ⟨news, hnews⟩ : ∃ news, news = (cs.toList.drop (j * 18)).take ((n - j) * 18) := ⟨_, rfl⟩
  have hlen : news.length = (n - j) * 18 := by rw [hnews]; simp; omega
  have hget : ∀ x, x < news.length → news[x]? = cs[j * 18 + x]? := fun x hx => by
    rw [hlen] at hx
    rw [hnews, List.getElem?_take_of_lt hx, List.getElem?_drop, Array.getElem?_toList]
  obtain ⟨A, hA, hsrc⟩ : ∃ A : Addr, (if cap = j then some (⟨k, 0, none⟩ : Addr) else some ⟨k, j * 18, none⟩) = some A ∧ Hid (∀ t u, news[t]? = some u → w.drew.cell? (A.add t) = some u) := by
    by_cases h : cap = j
    · refine ⟨⟨k, 0, none⟩, by simp [h], fun t u hu => ?_⟩
      have h0 : news.length = 0 := by rw [hlen]; omega
      rw [List.length_eq_zero_iff.1 h0] at hu
      simp at hu
    · refine ⟨⟨k, j * 18, none⟩, by simp [h], fun t u hu => ?_⟩
      have ht := (List.getElem?_eq_some_iff.1 hu).1
      rw [hget t ht] at hu
      rw [Addr.add_lit, hcell]
      exact hu
  have s1 : Hid (news.length = (n - j) * 18) := hlen
  have s2 : Hid (∀ u ∈ news, u.oneCell' = true) := by
    intro u hu
    obtain ⟨x, hx⟩ := List.getElem?_of_mem hu
    have hx2 := (List.getElem?_eq_some_iff.1 hx).1
    rw [hget x hx2] at hx
    rw [hlen] at hx2
    exact h1 _ _ (by omega) hx
  have s3 : Hid (∀ t, t < news.length → (w.drew.cell? ⟨k, 0 + i * 18 + t, none⟩).isSome = true ∧ w.drew.frozen? ⟨k, 0 + i * 18 + t, none⟩ = false) := by
    intro t ht
    rw [hlen] at ht
    refine ⟨?_, hfro _⟩
    rw [hcell, Array.getElem?_eq_getElem (by rw [hcs]; omega)]; rfl
  obtain ⟨W1, hW1⟩ : ∃ W1, W1 = w.drew.setCells k (0 + i * 18) news := ⟨_, rfl⟩
  obtain ⟨cs1, b1, b2, b3, b4, b5, b6, b7, b8⟩ := setCells_heap k news (0 + i * 18) w.drew cs t (0, 0) hh (by rw [hlen, hcs]; omega)
  rw [← hW1] at b1 b4 b5 b6 b7 b8
  have hsome : ∀ o, o < cap * 18 → (W1.cell? ⟨k, o, none⟩).isSome = true := fun o ho => by
    simp [World.cell?, b1]
    omega
  have hfr1 : ∀ o, W1.frozen? ⟨k, o, none⟩ = false := fun o => by
    simp [World.frozen?, b1]
  have hcl : ∀ ty, (Builtin.clear_ #[28] ty #[.slice (some ⟨k, (i + (n - j)) * 18, none⟩) (n - (i + (n - j))) (cap - (i + (n - j)))]).run Tryd.prog W1 = .ok (.tuple #[]) (W1.setCells k ((n - 1) * 18) zPin) := by
    intro ty
    have e1 : i + (n - j) = n - 1 := by omega
    have e2 : n - (n - 1) = 1 := by omega
    rw [e1, e2]
    have := clear_any (P := Tryd.prog) W1 28 44 ty _ Tryd.underlying28 Tryd.zeroValue44 k ((n - 1) * 18) 1 (cap - (n - 1)) (by decide)
    rw [zeros_pin] at this
    refine this (fun v hv => by rw [List.eq_of_mem_replicate hv]; rfl) (fun x hx => hsome _ ?_) (fun x hx => hfr1 _)
    have : zPin.length = 18 := rfl
    omega
  have hW : Hid (W1 = w.drew.setCells k (0 + i * 18) news) := hW1
  have X : Hid (i + (n - j) = n - 1 ∧ ∃ cs', (W1.setCells k ((n - 1) * 18) zPin).heap[k]? = some (.cells cs' t (0, 0)) ∧ cs'.size = cs.size ∧ (∀ x, x < (n - 1) * 18 → cs'[x]? = if x < i * 18 then cs[x]? else cs[x + 18]?) ∧
        (∀ q, q ≠ k → (W1.setCells k ((n - 1) * 18) zPin).heap[q]? = w.heap[q]?) ∧ (W1.setCells k ((n - 1) * 18) zPin).heap.size = w.heap.size ∧ (W1.setCells k ((n - 1) * 18) zPin).os = w.os ∧ (W1.setCells k ((n - 1) * 18) zPin).tape = w.tape ∧ (W1.setCells k ((n - 1) * 18) zPin).output = w.output) := by
    refine ⟨by omega, ?_⟩
    have hz : zPin.length = 18 := rfl
    obtain ⟨cs2, d1, d2, d3, d4, d5, d6, d7, d8⟩ := setCells_heap k zPin ((n - 1) * 18) W1 cs1 t (0, 0) b1 (by rw [b2, hcs, hz]; omega)
    refine ⟨cs2, d1, d2.trans b2, fun x hx => ?_, fun q hq => (d4 q hq).trans (b4 q hq), d5.trans b5, d6.trans b6, d7.trans b7, d8.trans b8⟩
    rw [d3, if_neg (by omega), b3]
    by_cases c : x < i * 18
    · rw [if_pos c, if_neg (by omega)]
    · rw [if_neg c, if_pos (by omega), hget _ (by omega), show j * 18 + (x - (0 + i * 18)) = x + 18 by omega]
  have hic : i ≤ cap := by omega
  have hjc : j ≤ cap := by omega
  have hz0 : 0 + i * 18 = i * 18 := by omega
  have hij : i < j := by omega
  have hj : j ≤ n := by omega
  have hx1 : i + (n - j) = n - 1 := by omega
  clear hnews hlen hget hcell hfro hsome hfr1 hcs hh h1 hj1 hW1 hz0 hx1 b1 b2 b3 b4 b5 b6 b7 b8
  go_enter Tryd.func80, Tryd.ntmps80
  go_wp2_with fail
  go_region_law (refine step_append_room rfl (.tmp 22) (.tmp 25) 28 rfl 44 _ 18 Tryd.underlying28 rfl rfl k 0 i cap (by simp [Act.eval, Act.put]) A (n - j) (cap - j) news (by simp [Act.eval, Act.put]) s1.out hsrc.out s2.out (by omega) s3.out ?_; rw [← hW.out])
  go_wp2
  go_ret
  exact ⟨by rw [X.out.1]; rfl, X.out.2⟩

end Go.Proofs.YtnhelkclkdfndaaDoor.Del
