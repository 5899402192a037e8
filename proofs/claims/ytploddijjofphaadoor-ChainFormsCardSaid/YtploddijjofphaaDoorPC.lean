/-
chain.Pieces, by hand: as a callee of the interpreter.
-/
import Derived.Test.YtploddijjofphaaDoorPB
import Derived.Test.YtploddijjofphaaDoorCC
namespace Go.Proofs.YtploddijjofphaaDoor.V
open Go Go.RowKit
set_option linter.unusedSimpArgs false
set_option linter.unusedVariables false

variable {c : Cx} {g : Gh} {w : World}

/-- A call that leaves behind nothing but new blocks, some cells of which stay. -/
theorem FS.scratchS {B : List (List D)} {ks : List Nat} {w' : World} (h : FS (c.at_ w g ks) g [] [] B w) (s' : Nat → Nat) (hh : ∀ k, k < w.heap.size → w'.heap[k]? = w.heap[k]?) (hs : w.heap.size ≤ w'.heap.size) (ho : w'.os = w.os) (ht : w'.tape = w.tape) (hp : w'.output = w.output)
    (e1 : ∀ k, k < w.heap.size → s' k = g.s k) (e2 : ∀ k, w'.heap.size ≤ k → s' k = 0) :
    FS (c.at_ w g ks) { g with s := s' } [] [] B w' := by
  have hev : Ev g.bx g.s w g.bx s' w' := ev_new _ _ _ _ _ e1 hh
  refine ⟨⟨ho.trans h.below.os, ht.trans h.below.tape, hp.trans h.below.output, Nat.le_trans h.below.size hs, fun k hk => ?_⟩, hs, h.baseLe, h.nB, h.pre, e2, fun k hk _ _ => ⟨hh k hk, e1 k hk⟩, ho, ht, hp, h.newL, h.newT, h.newB, h.old, h.mvS.step hev hs, fun i ds hi => (by simp at hi), fun i ds k hi hk => ?_, fun i hi => (by simp at hi), h.inj⟩
  · rw [hh k (Nat.lt_of_lt_of_le hk h.baseLe)]; exact h.below.block k hk
  · have hlt := h.lt (x := .b i) (lt_of_get hk)
    rw [show blk g (.b i) = k from bx_getD hk] at hlt
    exact (h.boxB i ds k hi hk).mono (fun _ _ hr => hr.mono hev) (e1 _ hlt) (hh _ hlt)

/-- The pieces of a text. -/
def piecesV : List D → Hp → Option (D × Hp)
  | [.str l], B => if l.length ≤ 100000 then some (.vec 1 ((pcs l).map .str) .fresh, B) else .none
  | _, _ => .none

theorem piecesV_inv {args : List D} {B : Hp} {r : D × Hp} (h : piecesV args B = some r) : ∃ l, args = [.str l] ∧ l.length ≤ 100000 ∧ r = (.vec 1 ((pcs l).map .str) .fresh, B) := by
  unfold piecesV at h
  split at h
  · split at h
    · injection h with h; exact ⟨_, rfl, by assumption, h.symm⟩
    · cases h
  · cases h

theorem prim_pieces {C : Callees} (hP : c.P = Tryd.prog) (hC : CallOK c C) : CallOK c (upd C 43 piecesV) := by
  refine hC.prim ⟨Tryd.f43, by rw [hP]; exact Tryd.func43, by kernel_rfl, by kernel_rfl⟩ (fun args B r B' h w g vs ks hf ha hnd hnb => ?_)
  obtain ⟨l, rfl, hl, hr⟩ := piecesV_inv h
  injection hr with hr1 hr2
  subst hr1; subst hr2
  obtain ⟨v, rfl, hv⟩ := one_arg ha
  have hv := repC_plain rfl hv
  cases hv with
  | str s =>
  rw [hP]
  refine (callsIn_wide (n := 3)).1 ?_
  refine (Pie.pieces_in _ _ trivial trivial trivial rfl (Nat.le_refl _) s (by simpa using hl) w).mono ?_
  rintro e w' ⟨v, rfl, hrow, hB⟩
  have hn : (pcs s.data.toList).length = Pie.cntP s.size := by rw [pcs_length]; show _ = (s.size + 501) / 502; unfold cnt; simp
  obtain ⟨_, ⟨rfl, h0⟩ | ⟨k0, cap, cur, rfl, hb, hg, hcap, _, hcs, htk⟩⟩ := hrow
  · have hz : pcs s.data.toList = [] := List.length_eq_zero_iff.1 (by rw [hn, h0])
    rw [hz]
    exact ⟨_, rfl, g, [], hf.scratch hB.block hB.size hB.os hB.tape hB.output, .one _ _ _ (.one _ _ _ (.tight 1 _ (.nilv _ _ (.inr rfl)))), List.nodup_nil, fun k hk => by cases hk⟩
  · have hk0 := (Array.getElem?_eq_some_iff.1 hg).1
    have hleaf : ∀ x, x ∈ (pcs s.data.toList).map D.str → x.leaf = true := fun x hx => by
      obtain ⟨y, _, rfl⟩ := List.mem_map.1 hx
      rfl
    have hcl := cellsL_leaf hleaf
    have hlen : ((pcs s.data.toList).map D.str).length = Pie.cntP s.size := by rw [List.length_map, hn]
    have hrep : Rep g.bx (fun j => if j = k0 then Pie.cntP s.size else g.s j) w' (.vec 1 ((pcs s.data.toList).map .str) .none) (.slice (some ⟨k0, 0, none⟩) ((pcs s.data.toList).map D.str).length cap) :=
      vec_new (.inl rfl) (by rw [hlen]; exact hcap) (fun x hx => by rw [leaf_cells (hleaf x hx)]; exact ⟨rfl, by simp [hleaf x hx]⟩) hg (by simp [hlen]) (by rw [hcl, hlen]; omega) (fun j d hj => by
        rw [hcl] at hj
        have hj2 : j < Pie.cntP s.size := by rw [← hlen]; exact lt_of_get hj
        have e1 : ((pcs s.data.toList).map D.str)[j]? = some (.str (pc s.data.toList j)) := by
          rw [List.getElem?_map, pcs_get (by rw [← pcs_length, hn]; exact hj2)]; rfl
        rw [e1] at hj
        injection hj with hj; subst hj
        have e2 : cur[j]? = some (.string (Pie.chunkP s j)) := by
          rw [← Array.getElem?_toList, ← List.getElem?_take_of_lt (j := Pie.cntP s.size * 1) (i := j) (by omega), htk, List.getElem?_map, List.getElem?_range hj2]; rfl
        have e3 : cur.getD j Go.undef = .string (Pie.chunkP s j) := by simp [Array.getD_eq_getD_getElem?, e2]
        rw [e3]
        exact .str (Pie.chunkP s j))
    rw [hlen] at hrep
    refine ⟨_, rfl, { g with s := fun j => if j = k0 then Pie.cntP s.size else g.s j }, [k0], hf.scratchS _ hB.block hB.size hB.os hB.tape hB.output (fun k hk => if_neg (by omega)) (fun k hk => by rw [if_neg (by omega)]; exact hf.zero k (Nat.le_trans hB.size hk)), .one _ _ _ (.one _ _ _ ?_), by simp, fun k hk => ?_⟩
    · have := RepO.fresh (bx := g.bx) (s := fun j => if j = k0 then Pie.cntP s.size else g.s j) (w := w') 1 ((pcs s.data.toList).map D.str) k0 cap cur 9 (by rw [hlen]; exact hrep) (by simp [hlen]) hg hcs
      rw [hlen] at this
      exact this
    · obtain rfl : k = k0 := by simpa using hk
      refine ⟨.inl hb, fun hm => ?_⟩
      obtain ⟨b, hb'⟩ := List.getElem?_of_mem hm
      have := hf.lt (x := .b b) (lt_of_get hb')
      rw [show blk g (.b b) = k from bx_getD hb'] at this
      omega

end Go.Proofs.YtploddijjofphaaDoor.V
