/-
chain.Pieces, by hand: the caller.
-/
import Derived.Test.YtploddijjofphaaDoorPA
namespace Go.Proofs.YtploddijjofphaaDoor.Pie
open Go Go.RowKit Go.Shelf

attribute [local go_sem] Oper.semAt_some

theorem infoS : (Tryd.prog.info? 9).map (fun i => (i.zero, i.size, i.bytes)) = some (some (.string ⟨#[]⟩), 1, 16) := by kernel_rfl

def chunkP (s : ByteArray) (k : Nat) : ByteArray := ⟨((s.data.toList.drop (502 * k)).take 502).toArray⟩

/-- What a round keeps: what lay ahead of the call; the bytes, and Chunk's two boxes. -/
def KpP (N : Nat) (W W' : World) : Prop := Below N W W' ∧ ∀ k, N < k → k ≤ N + 3 → (∃ cs t fr, W.heap[k]? = some (.cells cs t fr)) → W'.heap[k]? = W.heap[k]?

theorem KpP.trans {N : Nat} {A B C : World} (h : KpP N A B) (h' : KpP N B C) : KpP N A C :=
  ⟨h.1.trans h'.1, fun k h1 h2 h3 => by
    have e := h.2 k h1 h2 h3
    rw [← e] at h3
    exact (h'.2 k h1 h2 h3).trans e⟩

theorem KpP.put {N : Nat} {w : World} (hN : N ≤ w.heap.size) (W : World) (l : Nat) (o o' : Obj) (hl : w.heap.size ≤ l) (ho : W.heap[l]? = some o) (hc : o.isCells = false) (hw : o.isWalk = false) : KpP N W (W.putObj l o') :=
  ⟨belowK_b hN W l o o' hl ho hc hw, fun k _ _ ⟨cs, t, fr, hk⟩ => by
    refine (grownBy_putObj' W l o').block k (Array.getElem?_eq_some_iff.1 hk).1 (fun e => ?_)
    injection e with e
    subst e
    rw [hk] at ho
    injection ho with ho
    subst ho
    cases hc⟩

theorem KpP.cell {N : Nat} {W W' : World} (h : KpP N W W') {k : Nat} (h1 : N < k) (h2 : k ≤ N + 3) {v : Value} (hc : W.cell? ⟨k, 0, none⟩ = some v) : W'.cell? ⟨k, 0, none⟩ = some v := by
  have hk : ∃ cs t fr, W.heap[k]? = some (.cells cs t fr) := by
    have hc' := hc
    unfold World.cell? at hc'
    simp only at hc'
    split at hc'
    · rename_i cs t fr hb; exact ⟨cs, t, fr, hb⟩
    · cases hc'
  exact (World.cell?_of_block (a := ⟨k, 0, none⟩) (h.2 k h1 h2 hk)).trans hc

theorem ownsRow_base {W : World} {b b' : Nat} {e : TypeId} {sz : Nat} {v : Value} {n : Nat} {xs : List Value} (h : W.ownsRow b e sz v n xs) (hb : b' ≤ b) : W.ownsRow b' e sz v n xs := by
  obtain ⟨h1, h2⟩ := h
  refine ⟨h1, ?_⟩
  rcases h2 with h2 | ⟨g, cap, cur, e1, e2, e3⟩
  · exact .inl h2
  · exact .inr ⟨g, cap, cur, e1, Nat.le_trans hb e2, e3⟩

theorem chunk_stops (F : Fence) (n : Nat) (h5 : F.fn 76) (hro : F.round = none) (hn : 1 ≤ n) (N len cap : Nat) (hlen : len ≤ cap) (hl : len ≤ 100000) (w : World) (hN : N + 3 < w.heap.size)
    (hs : w.cell? ⟨N + 2, 0, none⟩ = some (.slice (some ⟨N + 1, 0, none⟩) len cap)) (hb : w.cell? ⟨N + 3, 0, none⟩ = some (.int .i64 502)) :
    SeqStopsK F n Tryd.prog 76 #[.pointer (some ⟨N + 2, 0, none⟩), .pointer (some ⟨N + 3, 0, none⟩)] (fun k : Nat => #[encP (N + 1) len k]) (KpP N) (fun ys => ys = List.range (cntP len)) (fun _ => True) (cntP len) w := fun l J Jx W hW hJ hJx hY h0 => by
  refine (chunk1_in F n h5 hro hn l (N + 2) (N + 3) (N + 1) len cap hlen hl (KpP N) (fun _ _ h hc => h.cell (by omega) (by omega) hc) (fun _ _ h hc => h.cell (by omega) (by omega) hc) J Jx (fun s W hs => hJ s W W.drew none hs ⟨rfl, rfl, rfl, Nat.le_refl _, fun _ _ _ => rfl⟩ (fun r e => by cases e)) hY W
    ((hW.cell (p := ⟨N + 2, 0, none⟩) (by show N + 2 < _; omega)).trans hs) ((hW.cell (p := ⟨N + 3, 0, none⟩) (by show N + 3 < _; omega)).trans hb) h0).mono ?_
  rintro e W' ⟨he, ⟨ys, rfl, hj⟩ | ⟨pre, hj⟩⟩
  · exact ⟨he, .inl ⟨_, rfl, hj⟩⟩
  · exact ⟨he, .inr ⟨_, trivial, hj⟩⟩

set_option maxRecDepth 100000 in
set_option maxHeartbeats 2000000 in
theorem pieces_in (F : Fence) (n : Nat) (h3 : F.fn 43) (h4 : F.fn 66) (h5 : F.fn 76) (hro : F.round = none) (hn : 3 ≤ n) (s : ByteArray) (hs : s.size ≤ 100000) (w : World) :
    CallsIn F n Tryd.prog 43 #[.string s] w fun e W' => ∃ v, e = .returned v ∧ W'.ownsRow w.heap.size 9 1 v (cntP s.size) ((List.range (cntP s.size)).map fun k => .string (chunkP s k)) ∧ Below w.heap.size w W' := by
  have h1 : 1 ≤ n := by omega
  obtain ⟨i0, hi, hz0, hz1, hz2⟩ := info_parts infoS
  refine callsIn_of_wp_marks Tryd.func43 rfl h3 ?_ hro
  simp only [Tryd.ntmps43, List.size_toArray, List.length_cons, List.length_nil, Nat.reduceAdd, Nat.reduceSub, Array.replicate_succ, Array.replicate_zero, List.push_toArray, List.append_toArray, List.nil_append, List.cons_append]
  gi_wp2_with (gi_at_call 66; refine (chunk_in F (n - 1) h4 hro _ _ _ _).mono ?_; rintro e w' ⟨rfl, rfl⟩)
  have u1 : Tryd.prog.underlying 9 = some .string := by kernel_rfl
  have u2 : Tryd.prog.underlying 64 = some (.slice 5) := by kernel_rfl
  have u4 : Tryd.prog.underlying 65 = some (.slice 9) := by kernel_rfl
  have u3 : Tryd.prog.underlying 5 = some (.int .u8) := by kernel_rfl
  rw [run_bytes_of_string _ 9 64 5 s u1 u2 u3]
  have hgc : s.size ≤ grownCap (w.alloc (.cells #[.slice none 0 0] 65)) s.size 0 5 := grownCap_ge _ _ _ _
  have hbr : ∀ j (hj : j < s.size), (bytesRow s (grownCap (w.alloc (.cells #[.slice none 0 0] 65)) s.size 0 5))[j]? = some (.int .u8 (s.data[j].toNat : Int)) := by
    intro j hj
    unfold bytesRow
    rw [Array.getElem?_append_left (by simpa using hj), Array.getElem?_map, Array.getElem?_eq_getElem hj]; rfl
  generalize grownCap (w.alloc (.cells #[.slice none 0 0] 65)) s.size 0 5 = cap at hgc hbr ⊢
  gi_wp2_with (gi_at_call 66; refine (chunk_in F (n - 1) h4 hro _ _ _ _).mono ?_; rintro e w' ⟨rfl, rfl⟩)
  obtain ⟨fr, hfr⟩ : ∃ fr, ((bytesRow s cap).size, (bytesRow s cap).size + 1) = fr := ⟨_, rfl⟩
  rw [hfr]
  obtain ⟨W4, hW4⟩ : ∃ W4, ((((w.alloc (Obj.cells #[Value.slice none 0 0] 65)).alloc (Obj.cells (bytesRow s cap) 5 fr)).alloc (Obj.cells #[Value.slice (some { block := w.heap.size + 1, off := 0 }) s.size cap] 64)).alloc (Obj.cells #[Value.int IntKind.i64 502] 3)).drew = W4 := ⟨_, rfl⟩
  have hsz : W4.heap.size = w.heap.size + 4 := by rw [← hW4]; simp
  have hB0 : Below w.heap.size w W4 := by
    rw [← hW4]; exact (((((Below.refl _ w).alloc (Nat.le_refl _) _).alloc (by simp) _).alloc (by simp; omega) _).alloc (by simp; omega) _).drew
  have hO : W4.heap[w.heap.size]? = some (.cells #[.slice none 0 0] 65 (0, 0)) := by
    rw [← hW4]; exact (((Boxed.new w 65 (.slice none 0 0)).alloc _).alloc _).alloc _
  have hR4 : W4.heap[w.heap.size + 1]? = some (.cells (bytesRow s cap) 5 fr) := by
    rw [← hW4]
    refine (Below.heap_alloc _ _ _ (by simp)).trans ((Below.heap_alloc _ _ _ (by simp)).trans ?_)
    have := World.alloc_heap_new (w.alloc (.cells #[.slice none 0 0] 65)) (.cells (bytesRow s cap) 5 fr)
    rwa [World.size_alloc] at this
  have hS4 : W4.cell? ⟨w.heap.size + 2, 0, none⟩ = some (.slice (some ⟨w.heap.size + 1, 0, none⟩) s.size cap) := by
    rw [← hW4]
    have := Boxed.new ((w.alloc (.cells #[.slice none 0 0] 65)).alloc (.cells (bytesRow s cap) 5 fr)) 64 (.slice (some { block := w.heap.size + 1, off := 0 }) s.size cap)
    rw [World.size_alloc, World.size_alloc] at this
    exact (this.alloc (.cells #[.int .i64 502] 3)).cell
  have hN4 : W4.cell? ⟨w.heap.size + 3, 0, none⟩ = some (.int .i64 502) := by
    rw [← hW4]
    have := Boxed.new (((w.alloc (.cells #[.slice none 0 0] 65)).alloc (.cells (bytesRow s cap) 5 fr)).alloc (.cells #[.slice (some { block := w.heap.size + 1, off := 0 }) s.size cap] 64)) 3 (.int .i64 502)
    rw [World.size_alloc, World.size_alloc, World.size_alloc] at this
    exact this.cell
  rw [hW4]
  refine wpIn_rangeFunc_ownG hro h1 (gf := 76) (lb := #[.pointer (some ⟨w.heap.size + 2, 0, none⟩), .pointer (some ⟨w.heap.size + 3, 0, none⟩)]) rfl h5 (enters_of Tryd.func76 (by kernel_rfl) rfl)
    (chunk_stops F (n - 1) h5 hro (by omega) w.heap.size s.size cap hgc hs W4 (by omega) hS4 hN4) (fun h h' => h.trans h') (KpP.put (by omega)) (Below.refl _ _) (fun _ => rfl)
    (fun (pre : List Nat) W => (∃ v, Boxed W w.heap.size 65 v ∧ W.ownsRow (w.heap.size + 4) 9 1 v pre.length (pre.map fun k => .string (chunkP s k)) ∧ True) ∧ (Below w.heap.size w W ∧ (W.heap[w.heap.size + 1]? = some (.cells (bytesRow s cap) 5 fr) ∧ w.heap.size + 4 ≤ W.heap.size)))
    (fun _ _ _ => False)
    (OwnFrom.and (Own.from (holdsRow_own (w.heap.size + 4) w.heap.size 65 9 1 (fun pre : List Nat => pre.length) (fun pre : List Nat => pre.map fun k => .string (chunkP s k)) (fun _ _ => True)) _) (OwnFrom.and (ownFrom_below (Nat.le_refl _) (by omega)) ?own))
    (fun _ _ _ _ _ hs _ _ => hs)
    ⟨⟨_, hO, World.ownsRow_nil _ _ _ _, trivial⟩, hB0, hR4, by omega⟩
    (fun k => { tmps := #[.string s, undef, .slice none 0 0, .pointer (some ⟨w.heap.size, 0, none⟩), encP (w.heap.size + 1) s.size k, .string s, .slice (some ⟨w.heap.size + 1, 0, none⟩) s.size cap, .func (.func 76) #[] #[.pointer (some ⟨w.heap.size + 2, 0, none⟩), .pointer (some ⟨w.heap.size + 3, 0, none⟩)], encP (w.heap.size + 1) s.size k, undef, undef, undef, undef, undef, undef], defers := [] }) ?assign ?body ?done ?stop
  case own =>
    intro _ W W' row ⟨h, hz⟩ hg hr
    refine ⟨?_, Nat.le_trans hz hg.size⟩
    exact (hg.block _ (Array.getElem?_eq_some_iff.1 h).1 (fun e => by have := (hr _ e.symm).1; omega)).trans h
  case assign =>
    intro l x W K hK
    gi_wp2
    exact hK
  case body =>
    rintro l pre k W ⟨⟨v, hv, hrow, _⟩, hB, hR, hz⟩ hlt
    have hc := hv.cell
    have hcl : (chunkP s k).data.toList.length = min 502 (s.size - 502 * k) := by
      unfold chunkP; simp
    have hcv : (convert 64 9 (encP (w.heap.size + 1) s.size k)).run Tryd.prog W = .ok (.string (chunkP s k)) W := by
      have h := run_convert_bytes_back (P := Tryd.prog) W 64 9 5 ⟨w.heap.size + 1, 502 * k, none⟩ (min 502 (s.size - 502 * k)) (chunkP s k).data.toList u2 u3 u1 (fun j hj => by
        have e : (⟨w.heap.size + 1, 502 * k, none⟩ : Addr).add j = ⟨w.heap.size + 1, 502 * k + j, none⟩ := by unfold Addr.add; split <;> simp_all
        have hlt2 : 502 * k + j < s.size := by rw [hcl] at hj; omega
        have hg0 : (chunkP s k).data.toList[j]? = some s.data[502 * k + j] := by
          show ((s.data.toList.drop (502 * k)).take 502)[j]? = _
          rw [List.getElem?_take_of_lt (by rw [hcl] at hj; omega), List.getElem?_drop, Array.getElem?_toList, Array.getElem?_eq_getElem hlt2]
        have hg : (chunkP s k).data.toList[j] = s.data[502 * k + j] := by
          have := List.getElem?_eq_getElem hj
          rw [hg0] at this
          exact (Option.some.inj this).symm
        rw [e, hg]
        unfold World.cell?
        simp only [hR]
        exact hbr (502 * k + j) hlt2)
      rw [hcl] at h
      simpa [encP] using h
    have hpl : pre.length < 300 := by unfold cntP at hlt; omega
    have hml : pre.length + 1 ≤ maxLen := by unfold maxLen; omega
    gi_wp2_with (gi_at_builtin; refine wpListIn_append_own _ rfl _ _ 65 rfl (w.heap.size + 4) 9 i0 (.string ⟨#[]⟩) 1 16 u4 hi hz0 hz1 hz2 rfl (by decide) _ _ _ rfl (hrow.alloc _) ⟨W.heap.size, 0, none⟩ 1 1 [.string (chunkP s k)] rfl rfl (cell_one_new _ _ _) (by simp [Value.oneCell']) (by omega) (by omega) (by simp; omega) ?_; intro v' w1 hown' hgrow _; obtain ⟨g', cap', rfl⟩ := ownsRow_succ hown'; obtain ⟨hv1, hv2, hr2, hk2, hb2⟩ := hv.appended (by decide) (ownsRow_base hrow (Nat.le_add_right _ 4)) hB.size (Nat.le_refl _) (ownsRow_base hown' (Nat.le_add_right _ 4)) hgrow; have hc1 := hv1.cell; have hf1 := hv1.frozen)
    have hst : ∀ k', w.heap.size < k' → k' < W.heap.size → k' ≤ w.heap.size + 3 → (w1.setCell ⟨w.heap.size, 0, none⟩ (.slice (some ⟨g', 0, none⟩) (pre.length + 1) cap')).heap[k']? = W.heap[k']? := fun k' q1 q3 q2 => by
      rw [Below.heap_setCell _ _ _ k' (by show k' ≠ w.heap.size; omega)]
      refine (hgrow.block k' (by simp; omega) (fun e => ?_)).trans (Below.heap_alloc _ _ _ (by omega))
      rcases hrow.2 with ⟨rfl, _⟩ | ⟨g, cap, cur, rfl, hb, _⟩
      · have e : some k' = none := e
        cases e
      · have e : some k' = some g := e
        injection e with e
        omega
    refine ⟨hk2.from _, ⟨hb2, fun k' q1 q2 _ => hst k' q1 (by omega) q2⟩, ⟨_, hv2, ?_, trivial⟩, hB.trans hb2, (hst _ (by omega) (by omega) (by omega)).trans hR, ?_⟩
    · have := hown'.kept (grownBy_setCell' w1 w.heap.size (.slice (some ⟨g', 0, none⟩) (pre.length + 1) cap')) (.inr (hv1.not_row (by decide) hown').symm)
      simpa using this
    · have := hgrow.size
      simp at this ⊢
      omega
  case done =>
    rintro D ys W hD rfl ⟨⟨v, hv, hrow, _⟩, hB, _, _⟩ hK
    have hc := hv.cell
    gi_wp2
    refine ⟨by simp, .inl ⟨_, _, rfl, run_takeDeferred hK, ?_⟩⟩
    exact ⟨_, results_tmp rfl _ _ _, v, rfl, by have := ownsRow_putObj hrow (.deferred none) hK rfl; simpa using ownsRow_base this (Nat.le_add_right _ 4), hB.trans (belowK_b (w := w) (Nat.le_refl _) W D _ _ (by omega) hK rfl rfl)⟩
  case stop =>
    rintro D c pre W _ _ h _
    exact h.elim

end Go.Proofs.YtploddijjofphaaDoor.Pie
