/-
pins.Close, by hand: the walk.
-/
import Derived.Test.YtnhelkclkdfndaaDoorDC
import Derived.Deep.RegionWith
import Derived.Laws.Rows
import Derived.Laws.ResultCell
import Derived.Laws.NewBlocks
namespace Go.Proofs.YtnhelkclkdfndaaDoor.V
open Go Go.RowKit
set_option linter.unusedSimpArgs false
set_option linter.unusedVariables false

variable {c : Cx} {g : Gh} {w : World}

theorem repR_tuple2 {bx : List Nat} {s : Nat → Nat} {d1 d2 : D} {v : Value} {ls : List Nat} (h : RepR bx s w (.tuple [d1, d2]) v ls) : ∃ v1 v2 k1 k2, v = .tuple #[v1, v2] ∧ RepC bx s w d1 v1 k1 ∧ RepC bx s w d2 v2 k2 ∧ ls = k1 ++ (k2 ++ []) := by
  cases h with
  | one _ _ _ h => cases h with
    | one _ _ _ h => cases h with
      | clean _ _ h => cases h
  | tuple _ _ _ h => cases h with
    | cons _ v1 k1 _ _ _ h1 h2 => cases h2 with
      | cons _ v2 k2 _ _ _ h3 h4 => cases h4 with
        | nil => exact ⟨v1, v2, k1, k2, rfl, h1, h3, rfl⟩
theorem repR_fresh {bx : List Nat} {s : Nat → Nat} {sz : Nat} {xs : List D} {v : Value} {ls : List Nat} (h : RepR bx s w (.vec sz xs .fresh) v ls) : RepO bx s w (.vec sz xs .fresh) v ls := by
  cases h with
  | one _ _ _ h => cases h with
    | one _ _ _ h => exact h

theorem rep_slice {bx : List Nat} {s : Nat → Nat} {sz : Nat} {xs : List D} {p : Perm} {v : Value} (h : Rep bx s w (.vec sz xs p) v) : ∃ a n cp, v = .slice a n cp := by
  cases h <;> exact ⟨_, _, _, rfl⟩
theorem repO_slice {bx : List Nat} {s : Nat → Nat} {sz : Nat} {xs : List D} {v : Value} {ks : List Nat} (h : RepO bx s w (.vec sz xs .fresh) v ks) : ∃ a n cp, v = .slice a n cp := by
  cases h with
  | clean _ _ h => exact rep_slice h
  | fresh => exact ⟨_, _, _, rfl⟩
  | tight _ _ h => exact rep_slice h

theorem ev_set {s : Nat → Nat} {b o : Nat} {u : Value} (h0 : s b = 0) : Ev [] s w [] s (w.setCell ⟨b, o, none⟩ u) := by
  refine ⟨fun _ _ h => h, fun _ _ => Nat.le_refl _, fun k o' v ho hc => ?_⟩
  have hk : k ≠ b := fun e => by subst e; omega
  rw [World.cell?_of_block (w := w) (setCell_other w b o u k hk)]
  exact hc
theorem repO_set {s : Nat → Nat} {sz : Nat} {xs : List D} {v : Value} {k b o : Nat} {u : Value} (h : RepO [] s w (.vec sz xs .fresh) v [k]) (hk : k ≠ b) (h0 : s b = 0) : RepO [] s (w.setCell ⟨b, o, none⟩ u) (.vec sz xs .fresh) v [k] := by
  cases h with
  | fresh _ _ _ cap cs t h hs hh hc => exact .fresh sz xs k cap cs t (h.mono (ev_set h0)) hs ((setCell_other w b o u k hk).trans hh) hc
theorem left_set {w0 : World} {s0 s : Nat → Nat} {b o : Nat} {u : Value} (h : Left w0 s0 w s) (hb : w0.heap.size ≤ b) : Left w0 s0 (w.setCell ⟨b, o, none⟩ u) s := by
  have e : (w.setCell ⟨b, o, none⟩ u).heap.size = w.heap.size := by simp [World.setCell]
  exact ⟨by rw [e]; exact h.size, fun k hk => (setCell_other w b o u k (by omega)).trans (h.heap k hk), h.os, h.tape, h.output, h.same, fun k hk => h.zero k (by rw [e] at hk; exact hk)⟩

theorem results_cell2 {P : Program} {fn : Func} {p u : Tmp} {ty : TypeId} (h : fn.results = #[.cell p ty, .tmp u]) (tmps : Array Value) (w : World) (g : Nat) (t : TypeId) (cs : Array Value) (fr : Nat × Nat) (d : TypeDesc)
    (hp : tmps.getD p undef = .pointer (some ⟨g, 0, none⟩)) (hg : w.heap[g]? = some (.cells cs t fr))
    (hu : P.underlying ty = some d) (hd : (match d with | .struct _ | .array _ _ => true | _ => false) = true) (hi : (P.info? ty).map (·.size) = some cs.size) :
    (results fn tmps).run P w = .ok (.tuple #[.agg cs, tmps.getD u undef]) w := by
  rw [results_cell_tmp h, hp]
  simp [asAddr, run_loadVar_row w g t ty cs fr d hg hu hd hi, Result.andThen]

/-- Close's own two boxes. -/
def boxes (w : World) (next : Nat) (S : Value) : World := (w.alloc (.cells #[.int .u64 next, S] 30)).alloc (.cells #[.int .u64 0, .slice none 0 0] 30)

theorem boxes_left (hf : FS (c.at_ w g []) g [] [] [] w) (next : Nat) (S : Value) : Left w g.s (boxes w next S) g.s := by
  refine ⟨?_, ?_, rfl, rfl, rfl, fun _ _ => rfl, fun k hk => hf.zero k (Nat.le_trans ?_ hk)⟩
  · unfold boxes; simp; omega
  · intro k hk
    have e : (boxes w next S).heap = (w.heap.push (.cells #[.int .u64 next, S] 30)).push (.cells #[.int .u64 0, .slice none 0 0] 30) := rfl
    rw [e, Array.getElem?_push, if_neg (by simp; omega), Array.getElem?_push, if_neg (by omega)]
  · unfold boxes; simp; omega

theorem boxes_at (w : World) (next : Nat) (S : Value) : (boxes w next S).heap[w.heap.size]? = some (.cells #[.int .u64 next, S] 30 (0, 0)) ∧ (boxes w next S).heap[w.heap.size + 1]? = some (.cells #[.int .u64 0, .slice none 0 0] 30 (0, 0)) := by
  have e : (boxes w next S).heap = (w.heap.push (.cells #[.int .u64 next, S] 30)).push (.cells #[.int .u64 0, .slice none 0 0] 30) := rfl
  constructor
  · rw [e, Array.getElem?_push, if_neg (by simp), Array.getElem?_push, if_pos rfl]
  · rw [e, Array.getElem?_push, if_pos (by simp)]
theorem boxes_size (w : World) (next : Nat) (S : Value) : (boxes w next S).heap.size = w.heap.size + 2 := by
  unfold boxes; simp
theorem Left.drew {w1 w2 : World} {s1 s2 : Nat → Nat} (h : Left w1 s1 w2 s2) : Left w1 s1 w2.drew s2 := ⟨h.size, h.heap, h.os, h.tape, h.output, h.same, h.zero⟩
theorem cell_at {w : World} {k o : Nat} {cs : Array Value} {t : TypeId} (h : w.heap[k]? = some (.cells cs t (0, 0))) : w.cell? ⟨k, o, none⟩ = cs[o]? ∧ w.frozen? ⟨k, o, none⟩ = false := by
  constructor
  · simp [World.cell?, h]
  · simp [World.frozen?, h]

set_option maxHeartbeats 4000000 in
set_option maxRecDepth 1000000 in
theorem close_calls {C : Callees} (hP : c.P = Tryd.prog) (hC : CallOK c C) (hf : FS (c.at_ w g []) g [] [] [] w) (next id : Nat) {xs : List D} {S : Value} (hS : Rep [] g.s w (.vec 18 xs .none) S) (hp : ∀ d, d ∈ cellsL xs → d.plain = true) (hm : xs.length ≤ 1000) {i : Nat} (hi : i < xs.length)
    (hat : C 79 [.agg [.int .u64 next, .vec 18 xs .none], .int .u64 id] [] = some (.tuple [.int .i64 i, .nili], [])) (hcl : C 78 [.vec 18 xs .none] [] = some (.vec 18 xs .fresh, [])) :
    Calls c.P 18 #[.agg #[.int .u64 next, S], .int .u64 id] w fun e w' => ∃ S' s' k, e = .returned (.tuple #[.agg #[.int .u64 next, S'], .nilIface]) ∧ Left w g.s w' s' ∧ RepO [] s' w' (.vec 18 (cutAt xs i) .fresh) S' [k] ∧ w.heap.size ≤ k := by
  have l1 := boxes_left hf next S
  have hS1 := hS.mono l1.ev
  have hA := use_call hC hat hf l1 (vs := [.agg #[.int .u64 next, S], .int .u64 id]) (.cons _ _ [] _ _ [] (.one _ _ _ (.clean _ _ (.agg _ _ rfl (fun i d hi => by
    match i, hi with
    | 0, hi => simp at hi; subst hi; exact .int _ _
    | 1, hi => simp at hi; subst hi; exact hS1)))) (.cons _ _ [] _ _ [] (.one _ _ _ (.clean _ _ (.int _ _))) .nil))
  rw [hP] at hA ⊢
  clear hS1
  go_enter Tryd.func18, Tryd.ntmps18
  go_wp2_with (go_at_call 79; refine hA.mono ?_; rintro e w2 ⟨v, rfl, s2, ls, l2, hr, _, _⟩; obtain ⟨v1, v2, k1, k2, rfl, r1, r2, _⟩ := repR_tuple2 hr; cases repC_plain rfl r1; cases repC_plain rfl r2; clear hr r1 r2)
  have lD := l2.drew
  have z0 : g.s (w.heap.size + 1) = 0 := hf.zero _ (by omega)
  have hB := use_call hC hcl hf (l1.trans lD) (vs := [S]) (.cons _ _ [] _ _ [] (.one _ _ _ (.clean _ _ (hS.mono (l1.trans lD).ev))) .nil)
  rw [hP] at hB
  obtain ⟨p1, p2⟩ := boxes_at w next S
  have p3 := boxes_size w next S
  have p4 : w2.drew.heap[w.heap.size]? = _ := (lD.heap _ (by omega)).trans p1
  have p5 : w2.drew.heap[w.heap.size + 1]? = _ := (lD.heap _ (by omega)).trans p2
  have c1 : w2.drew.cell? ⟨w.heap.size, 0, none⟩ = some (.int .u64 next) := (cell_at p4).1.trans rfl
  have c2 : w2.drew.cell? ⟨w.heap.size, 1, none⟩ = some S := (cell_at p4).1.trans rfl
  have hw : IntKind.i64.wrap ((i : Int) + 1) = ((i + 1 : Nat) : Int) := by rw [wrapI (by omega) (by omega)]; rfl
  have key : ∀ (w3 : World) (s3 : Nat → Nat) (ls3 : List Nat) (v3 : Value), Left w2.drew s2 w3 s3 → RepR [] s3 w3 (.vec 18 xs .fresh) v3 ls3 → (∀ k, k ∈ ls3 → w2.drew.heap.size ≤ k) →
      Calls Tryd.prog 80 #[v3, .int .i64 i, .int .i64 ((i : Int) + 1)] w3 fun e w4 => ∃ a4 n4 p4 s4 k4, e = .returned (.slice a4 n4 p4) ∧ RepO [] s4 w4 (.vec 18 (cutAt xs i) .fresh) (.slice a4 n4 p4) [k4] ∧ Left w2.drew s2 w4 s4 ∧ w2.drew.heap.size ≤ k4 ∧ w4.cell? ⟨w.heap.size + 1, 0, none⟩ = some (.int .u64 0) ∧ w4.cell? ⟨w.heap.size + 1, 1, none⟩ = some (.slice none 0 0) ∧ w4.frozen? ⟨w.heap.size + 1, 0, none⟩ = false ∧ w4.frozen? ⟨w.heap.size + 1, 1, none⟩ = false ∧ w4.cell? ⟨w.heap.size, 0, none⟩ = some (.int .u64 next) ∧ w4.heap[w.heap.size + 1]? = some (.cells #[.int .u64 0, .slice none 0 0] 30 (0, 0)) := by
    intro w3 s3 ls3 v3 l3 hr3 hk3
    obtain ⟨k, rfl, hlt, hD⟩ := del_row (c := c) hP hi hm hp (repR_fresh hr3)
    rw [hP] at hD
    have hge := hk3 k (by simp)
    refine hD.mono ?_
    rintro e w4 ⟨v4, rfl, hv4, b1, b2, b3, b4, b5⟩
    have hlt5 := (Array.getElem?_eq_some_iff.1 p5).1
    have p6 := ((b1 (w.heap.size + 1) (by omega)).trans (l3.heap _ hlt5)).trans p5
    have p7 := ((b1 w.heap.size (by omega)).trans (l3.heap _ (by omega))).trans p4
    obtain ⟨a4, n4, cp4, rfl⟩ := repO_slice hv4
    refine ⟨a4, n4, cp4, _, k, rfl, hv4, ⟨by rw [b2]; exact l3.size, fun q hq => by rw [b1 q (by omega)]; exact l3.heap q hq, b3.trans l3.os, b4.trans l3.tape, b5.trans l3.output, fun q hq => ?_, fun q hq => ?_⟩, hge, (cell_at p6).1.trans rfl, (cell_at p6).1.trans rfl, (cell_at p6).2, (cell_at p6).2, (cell_at p7).1.trans rfl, p6⟩
    · show (if q = k then _ else s3 q) = _
      rw [if_neg (by omega)]; exact l3.same q hq
    · show (if q = k then _ else s3 q) = 0
      rw [if_neg (by omega)]; exact l3.zero q (by omega)
  have key3 : ∀ (w3 : World) (s3 : Nat → Nat), Left w2.drew s2 w3 s3 → w3.cell? ⟨w.heap.size, 0, none⟩ = some (.int .u64 next) := fun w3 s3 l3 => by
    have hlt4 := (Array.getElem?_eq_some_iff.1 p4).1
    exact (cell_at ((l3.heap _ hlt4).trans p4)).1.trans rfl
  have fin5 : ∀ (w4 : World) (s4 : Nat → Nat) (k4 : Nat) (S' u1 u2 : Value), RepO [] s4 w4 (.vec 18 (cutAt xs i) .fresh) S' [k4] → Left w2.drew s2 w4 s4 → w2.drew.heap.size ≤ k4 →
      Left w g.s ((w4.setCell ⟨w.heap.size + 1, 0, none⟩ u1).setCell ⟨w.heap.size + 1, 1, none⟩ u2) s4 ∧ RepO [] s4 ((w4.setCell ⟨w.heap.size + 1, 0, none⟩ u1).setCell ⟨w.heap.size + 1, 1, none⟩ u2) (.vec 18 (cutAt xs i) .fresh) S' [k4] ∧ w.heap.size ≤ k4 := by
    intro w4 s4 k4 S' u1 u2 hv l4 hk4
    have hlt5 := (Array.getElem?_eq_some_iff.1 p5).1
    have z4 : s4 (w.heap.size + 1) = 0 := by rw [l4.same _ hlt5, lD.same _ (by omega)]; exact z0
    exact ⟨left_set (left_set ((l1.trans lD).trans l4) (by omega)) (by omega), repO_set (repO_set hv (by omega) z4) (by omega) z4, by omega⟩
  clear hi hm hp hat hcl hP hC hf hS
  go_region_with (first | (go_at_call 78; refine hB.mono ?_; rintro e w3 ⟨v3, rfl, s3, ls3, l3, hr3, _, hk3⟩; have hD := key w3 s3 ls3 v3 l3 hr3 hk3; have d3 := key3 w3 s3 l3; clear hr3 hk3) | (go_at_call 80; refine hD.mono ?_; rintro e w4 ⟨a4, n4, cp4, s4, k4, rfl, hv4, l4, hk4, c3, c4, c5, c6, c7, c8⟩))
  all_goals
    go_wp2
    have q1 := setCell_heap w4 (w.heap.size + 1) 0 (.int .u64 next) _ _ _ c8
    have q2 := setCell_heap _ (w.heap.size + 1) 1 (.slice a4 n4 cp4) _ _ _ q1
    refine bodyPost_ret_by (results_cell2 rfl _ _ (w.heap.size + 1) _ _ _ _ rfl q2 Tryd.underlying30 rfl rfl) rfl ?_
    exact ⟨_, s4, k4, rfl, fin5 w4 s4 k4 _ _ _ hv4 l4 hk4⟩

end Go.Proofs.YtnhelkclkdfndaaDoor.V
