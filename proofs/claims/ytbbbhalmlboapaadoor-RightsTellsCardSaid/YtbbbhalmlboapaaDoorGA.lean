/-
A builder that the call itself has made, by hand: its methods.
-/
import Derived.Shelf.RegionOpenPlain
import Derived.Lib.Strings
import Derived.Lib.Slices
import Derived.Lib.Walk
import Derived.Lib.Builder
import Derived.Lib.UnsafeStr
import Derived.WalkKit
import Derived.Laws.Externs
import Derived.Deep.RegionLaw
import Derived.Laws.AppendOwn
import Derived.Test.YtbbbhalmlboapaaDoorProg
import Derived.Test.YtbbbhalmlboapaaDoorUF
import Derived.KernelRfl
namespace Go.Proofs.YtbbbhalmlboapaaDoor.Bld
open Go Go.RowKit Go.Lib

/-- What a builder in block b holds; its row lies at base or above. -/
structure HasB (b base : Nat) (p : Value) (l : List UInt8) (w : World) : Prop where
  lt : b < base
  at_ : ∃ v, w.heap[b]? = some (.cells #[p, v] 120 (0, 0)) ∧ w.ownsRow base 5 1 v l.length (Lib.byteCells l)

/-- All below base stands, but the builder. -/
structure Kept (b base : Nat) (w w' : World) : Prop where
  size : w.heap.size ≤ w'.heap.size
  block : ∀ k, k < base → k ≠ b → w'.heap[k]? = w.heap[k]?
  os : w'.os = w.os
  tape : w'.tape = w.tape
  output : w'.output = w.output
theorem Kept.refl (b base : Nat) (w : World) : Kept b base w w := ⟨Nat.le_refl _, fun _ _ _ => rfl, rfl, rfl, rfl⟩
theorem Kept.trans {b base : Nat} {w1 w2 w3 : World} (h : Kept b base w1 w2) (h' : Kept b base w2 w3) : Kept b base w1 w3 :=
  ⟨Nat.le_trans h.size h'.size, fun k hk hb => (h'.block k hk hb).trans (h.block k hk hb), h'.os.trans h.os, h'.tape.trans h.tape, h'.output.trans h.output⟩

theorem sizeBuilder : (Tryd.prog.info? 120).map (·.size) = some 2 := by kernel_rfl
theorem liesBuilder : liesAt Tryd.prog Tryd.prog.depth 120 (2 / Tryd.prog.cellsOf 120) 0 120 1 = true := by kernel_rfl
theorem infoByte : (Tryd.prog.info? 5).map (fun i => (i.zero, i.size, i.bytes)) = some (some (.int .u8 0), 1, 1) := by kernel_rfl
theorem cellsByte : Tryd.prog.cellsOf 5 = 1 := by kernel_rfl

set_option maxHeartbeats 1000000 in
set_option maxRecDepth 100000 in
theorem cc_used (b : Nat) (w : World) (h0 : w.cell? ⟨b, 0, none⟩ = some (.pointer (some ⟨b, 0, none⟩))) :
    Calls Tryd.prog 94 #[.pointer (some ⟨b, 0, none⟩)] w fun e w' => e = .returned (.tuple #[]) ∧ w' = w := by
  obtain ⟨j, hj, _⟩ := Option.map_eq_some_iff.1 sizeBuilder
  go_enter Tryd.func94, Tryd.ntmps94
  go_wp2
  rw [Lib.run_neq_ptr_same w _ Tryd.underlying118 hj]
  go_wp2
  go_end0
  exact ⟨rfl, rfl⟩

set_option maxHeartbeats 1000000 in
set_option maxRecDepth 100000 in
theorem cc_fresh (b : Nat) (w : World) (h0 : w.cell? ⟨b, 0, none⟩ = some (.pointer none)) (hsh : w.shape? b = some (120, 2)) (hfz : w.frozen? ⟨b, 0, none⟩ = false) :
    Calls Tryd.prog 94 #[.pointer (some ⟨b, 0, none⟩)] w fun e w' => e = .returned (.tuple #[]) ∧ w' = w.setCell ⟨b, 0, none⟩ (.pointer (some ⟨b, 0, none⟩)) := by
  obtain ⟨j, hj, hjs⟩ := Option.map_eq_some_iff.1 sizeBuilder
  go_enter Tryd.func94, Tryd.ntmps94
  go_wp2
  rw [Lib.run_to_unsafe w ⟨b, 0, none⟩ Tryd.underlying118 Tryd.underlying123 hj (by rw [hjs]; decide) hsh (Nat.zero_lt_succ 1)]
  simp only [Result.andThen]
  rw [Oper.upon_value]
  go_wp2
  rw [run_callFunc_extern Tryd.func100 (by kernel_rfl) (by kernel_rfl) (by kernel_rfl) (e := Extern.AbiNoEscape.same) (by kernel_rfl)]
  rw [Lib.run_noEscape]
  simp only [Result.andThen]
  rw [Oper.upon_value]
  go_wp2
  rw [Lib.run_from_unsafe w ⟨b, 0, none⟩ Tryd.underlying123 Tryd.underlying118 hj hsh liesBuilder]
  simp only [Result.andThen]
  rw [Oper.upon_value]
  go_wp2
  go_end0
  exact ⟨rfl, rfl⟩

theorem cell_of {w : World} {b : Nat} {cs : Array Value} {t : TypeId} (h : w.heap[b]? = some (.cells cs t (0, 0))) (o : Nat) : w.cell? ⟨b, o, none⟩ = cs[o]? ∧ w.frozen? ⟨b, o, none⟩ = false := by
  constructor
  · simp [World.cell?, h]
  · simp [World.frozen?, h]

theorem HasB.set {b base : Nat} {p q : Value} {l : List UInt8} {w : World} (h : HasB b base p l w) : HasB b base q l (w.setCell ⟨b, 0, none⟩ q) ∧ Kept b base w (w.setCell ⟨b, 0, none⟩ q) := by
  obtain ⟨v, h1, h2⟩ := h.at_
  refine ⟨⟨h.lt, v, V.setCell_heap w b 0 q _ _ _ h1, ownsRow_setCell_below h2 h.lt q⟩, ⟨by simp [World.setCell], fun k _ hb => V.setCell_other w b 0 q k hb, rfl, rfl, rfl⟩⟩

theorem cc_calls {b base : Nat} {p : Value} {l : List UInt8} {w : World} (h : HasB b base p l w) (hp : p = .pointer none ∨ p = .pointer (some ⟨b, 0, none⟩)) :
    Calls Tryd.prog 94 #[.pointer (some ⟨b, 0, none⟩)] w fun e w' => e = .returned (.tuple #[]) ∧ HasB b base (.pointer (some ⟨b, 0, none⟩)) l w' ∧ Kept b base w w' := by
  obtain ⟨v, h1, h2⟩ := h.at_
  rcases hp with rfl | rfl
  · refine (cc_fresh b w ((cell_of h1 0).1.trans rfl) (by simp [World.shape?, h1]) (cell_of h1 0).2).mono ?_
    rintro e w' ⟨rfl, rfl⟩
    exact ⟨rfl, h.set⟩
  · refine (cc_used b w ((cell_of h1 0).1.trans rfl)).mono ?_
    rintro e w' ⟨rfl, rfl⟩
    exact ⟨rfl, h, Kept.refl _ _ _⟩

set_option maxHeartbeats 2000000 in
set_option maxRecDepth 100000 in
theorem wb_calls {b base : Nat} {p : Value} {l : List UInt8} {w : World} (h : HasB b base p l w) (hp : p = .pointer none ∨ p = .pointer (some ⟨b, 0, none⟩)) (c : UInt8) (hl : l.length ≤ 1000) (hb : base ≤ w.heap.size) :
    Calls Tryd.prog 82 #[.pointer (some ⟨b, 0, none⟩), .int .u8 (c.toNat : Nat)] w fun e w' => e = .returned .nilIface ∧ HasB b base (.pointer (some ⟨b, 0, none⟩)) (l ++ [c]) w' ∧ Kept b base w w' := by
  obtain ⟨i0, hi, hz0, hz1, hz2⟩ := info_parts infoByte
  have hcc := cc_calls h hp
  go_enter Tryd.func82, Tryd.ntmps82
  go_wp2_with (go_at_call 94; refine hcc.mono ?_)
  rintro e w1 ⟨rfl, h1, k1⟩
  obtain ⟨v, hbk, hown⟩ := h1.at_
  have c0 : w1.cell? ⟨b, 0, none⟩ = some (.pointer (some ⟨b, 0, none⟩)) := (cell_of hbk 0).1.trans rfl
  have c1 : w1.cell? ⟨b, 1, none⟩ = some v := (cell_of hbk 1).1.trans rfl
  go_wp2_with (at_builtin; refine wpList_append_own _ rfl _ _ 33 rfl base 5 i0 (.int .u8 0) 1 1 Tryd.underlying33 hi hz0 hz1 hz2 rfl (by decide) _ _ _ rfl (hown.alloc _) ⟨w1.heap.size, 0, none⟩ 1 1 [.int .u8 (c.toNat : Nat)] rfl rfl ?c1 ?c2 ?c3 ?c4 ?c5 ?_)
  case c1 =>
    intro j u hj
    match j, hj with
    | 0, hj => simp at hj; subst hj; simp [Addr.add]
  case c2 => intro u hu; simp at hu; subst hu; rfl
  case c3 => unfold maxLen; omega
  case c4 => omega
  case c5 => have := k1.size; simp; omega
  intro v' w2 hown' hgrow _
  have hlt : b < w1.heap.size := (Array.getElem?_eq_some_iff.1 hbk).1
  have hsz := k1.size
  have hfar : ∀ k, k < base → w2.heap[k]? = w1.heap[k]? := fun k hk => by
    rw [hgrow.block k (by simp; omega) (fun e => by have := (hown.lt k e.symm).1; omega), Lib.alloc_old w1 _ k (by omega)]
  have hb2 := (hfar b h.lt).trans hbk
  have d0 : w2.cell? ⟨b, 0, none⟩ = some (.pointer (some ⟨b, 0, none⟩)) := (cell_of hb2 0).1.trans rfl
  have d1 : w2.cell? ⟨b, 1, none⟩ = some v := (cell_of hb2 1).1.trans rfl
  have f1 : w2.frozen? ⟨b, 1, none⟩ = false := (cell_of hb2 1).2
  obtain ⟨g, cap, rfl⟩ : ∃ g cap, v' = .slice (some ⟨g, 0, none⟩) (l.length + 1) cap := by
    rcases hown'.2 with ⟨_, h0⟩ | ⟨g, cap, cur, hv, _⟩
    · omega
    · exact ⟨g, cap, hv⟩
  go_wp2
  go_ret
  have hl2 : (l ++ [c]).length = l.length + 1 := by simp
  have hbc : Lib.byteCells l ++ [.int .u8 (c.toNat : Nat)] = Lib.byteCells (l ++ [c]) := by simp [Lib.byteCells]
  rw [hbc] at hown'
  refine ⟨rfl, ⟨h.lt, .slice (some ⟨g, 0, none⟩) (l.length + 1) cap, V.setCell_heap w2 b 1 _ _ _ _ hb2, ?_⟩, ?_⟩
  · rw [hl2]
    exact ownsRow_setCell_below hown' h.lt _
  · refine k1.trans ⟨?_, fun k hk hkb => (V.setCell_other w2 b 1 _ k hkb).trans (hfar k hk), hgrow.os, hgrow.tape, hgrow.output⟩
    have := hgrow.size
    simp [World.setCell] at this ⊢
    omega

theorem Kept.of {b base : Nat} {w w' : World} (h : Below base w w') : Kept b base w w' := ⟨h.size, fun k hk _ => h.block k hk, h.os, h.tape, h.output⟩

set_option maxHeartbeats 1000000 in
set_option maxRecDepth 100000 in
theorem ln_calls {b base : Nat} {p : Value} {l : List UInt8} {w : World} (h : HasB b base p l w) :
    Calls Tryd.prog 83 #[.pointer (some ⟨b, 0, none⟩)] w fun e w' => e = .returned (.int .i64 l.length) ∧ w' = w := by
  obtain ⟨v, hbk, hown⟩ := h.at_
  obtain ⟨ao, cap, rfl⟩ : ∃ ao cap, v = .slice ao l.length cap := by
    rcases hown.2 with ⟨hv, h0⟩ | ⟨g, cap, cur, hv, _⟩
    · exact ⟨none, 0, by rw [hv, h0]⟩
    · exact ⟨_, _, hv⟩
  have c1 : w.cell? ⟨b, 1, none⟩ = some (.slice ao l.length cap) := (cell_of hbk 1).1.trans rfl
  go_enter Tryd.func83, Tryd.ntmps83
  go_wp2
  go_ret
  exact ⟨rfl, rfl⟩

set_option maxHeartbeats 2000000 in
set_option maxRecDepth 100000 in
theorem st_calls {b base : Nat} {p : Value} {l : List UInt8} {w : World} (h : HasB b base p l w) (h0 : l ≠ []) :
    Calls Tryd.prog 84 #[.pointer (some ⟨b, 0, none⟩)] w fun e w' => e = .returned (.string ⟨l.toArray⟩) ∧ Kept b base w w' := by
  obtain ⟨v, hbk, hown⟩ := h.at_
  have hl0 : l.length ≠ 0 := by simpa using h0
  obtain ⟨g, cap, cur, rfl, hbg, hg, hnc, hcm, hcs, htake⟩ : ∃ g cap cur, v = .slice (some ⟨g, 0, none⟩) l.length cap ∧ base ≤ g ∧ w.heap[g]? = some (.cells cur 5 (0, 0)) ∧ l.length ≤ cap ∧ cap ≤ maxLen ∧ cur.size = cap * 1 ∧ cur.toList.take (l.length * 1) = Lib.byteCells l := by
    rcases hown.2 with ⟨_, hz⟩ | ⟨g, cap, cur, hv, r⟩
    · exact absurd hz hl0
    · exact ⟨g, cap, cur, hv, r⟩
  have c1 : w.drew.cell? ⟨b, 1, none⟩ = some (.slice (some ⟨g, 0, none⟩) l.length cap) := (cell_of (w := w) hbk 1).1.trans rfl
  have hSD : (Builtin.unsafeSliceData_ #[33] 138 #[.slice (some ⟨g, 0, none⟩) l.length cap]).run Tryd.prog w.drew = .ok (.pointer (some ⟨g, 0, none⟩)) w.drew :=
    Lib.run_unsafeSliceData_row _ _ _ _ _ _ (by omega)
  have hUS : (Builtin.unsafeString_ #[138, 3] 9 #[.pointer (some ⟨g, 0, none⟩), .int .i64 l.length]).run Tryd.prog w.drew = .ok (.string ⟨l.toArray⟩) (w.drew.freeze ⟨g, 0, none⟩ l.length) := by
    refine Lib.run_unsafeString_row w.drew 138 3 9 5 Tryd.underlying138 cellsByte g cur.size (by have hg' : w.drew.heap[g]? = some (.cells cur 5 (0, 0)) := hg; simp [World.shape?, hg']) l h0 (by omega) (by unfold maxLen at hcm; omega) ?_
    intro j x hx
    exact hown.cells (g := g) rfl j (.int .u8 x.toNat) (by simp [Lib.byteCells, hx])
  have hK : Kept b base w (w.drew.freeze ⟨g, 0, none⟩ l.length) := Kept.of (Lib.below_freeze (Below.drew (Below.refl base w)) (p := ⟨g, 0, none⟩) hbg _)
  clear hown hg hcs htake
  go_enter Tryd.func84, Tryd.ntmps84
  go_wp2
  go_region
  all_goals (go_wp2; go_ret; exact ⟨rfl, hK⟩)

end Go.Proofs.YtbbbhalmlboapaaDoor.Bld
