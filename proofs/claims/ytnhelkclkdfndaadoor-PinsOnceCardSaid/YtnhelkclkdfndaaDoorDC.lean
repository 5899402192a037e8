/-
pins.Close, by hand: a row without one of its elements.
-/
import Derived.Test.YtnhelkclkdfndaaDoorDB
namespace Go.Proofs.YtnhelkclkdfndaaDoor.V
open Go Go.RowKit
set_option linter.unusedSimpArgs false
set_option linter.unusedVariables false

variable {c : Cx} {g : Gh} {w : World}

theorem plain_repN {bx : List Nat} {s : Nat → Nat} {d : D} {v : Value} (hp : d.plain = true) (h : Rep bx s w d v) {bx' : List Nat} (s' : Nat → Nat) (w' : World) : Rep bx' s' w' d v := plain_repC hp (.one _ _ _ (.clean _ _ h)) s' w'

/-- A row without its i-th element. -/
def cutAt (xs : List D) (i : Nat) : List D := xs.take i ++ xs.drop (i + 1)
theorem cutAt_length {xs : List D} {i : Nat} (h : i < xs.length) : (cutAt xs i).length = xs.length - 1 := by
  unfold cutAt; simp; omega
theorem cutAt_cells {xs : List D} {i : Nat} (hs : OkL 18 xs) : cellsL (cutAt xs i) = (cellsL xs).take (i * 18) ++ (cellsL xs).drop ((i + 1) * 18) := by
  unfold cutAt
  rw [cellsL_append, cellsL_take i hs.len, cellsL_drop (i + 1) hs.len]

set_option maxHeartbeats 1000000 in
theorem del_row (hP : c.P = Tryd.prog) {xs : List D} {i : Nat} (hi : i < xs.length) (hm : xs.length ≤ 1000) (hp : ∀ d, d ∈ cellsL xs → d.plain = true) {s : Nat → Nat} {v : Value} {ks : List Nat} (h : RepO [] s w (.vec 18 xs .fresh) v ks) :
    ∃ k, ks = [k] ∧ k < w.heap.size ∧ Calls c.P 80 #[v, .int .i64 i, .int .i64 ((i + 1 : Nat) : Int)] w fun e w' => ∃ v', e = .returned v' ∧ RepO [] (fun q => if q = k then (xs.length - 1) * 18 else s q) w' (.vec 18 (cutAt xs i) .fresh) v' [k] ∧
      (∀ q, q ≠ k → w'.heap[q]? = w.heap[q]?) ∧ w'.heap.size = w.heap.size ∧ w'.os = w.os ∧ w'.tape = w.tape ∧ w'.output = w.output := by
  cases h with
  | clean _ _ h => cases h with
    | vec _ _ _ _ _ _ hp _ _ _ _ _ => rcases hp with h | ⟨h, _⟩ | h <;> cases h
    | nilv _ _ h => rcases h with h | h <;> cases h
  | tight _ _ h => simp at hi
  | fresh sz _ k cap cs t h hs hh hc =>
    refine ⟨k, rfl, (Array.getElem?_eq_some_iff.1 hh).1, ?_⟩
    cases h with
    | vec _ _ _ _ _ vs _ hcap hsz hcell hrep _ =>
    rw [hP]
    have hlen : (cellsL xs).length = xs.length * 18 := cellsL_length hsz.len
    have hget : ∀ x, x < xs.length * 18 → cs[x]? = some (vs x) := fun x hx => by
      have h1 := hcell x _ (List.getElem?_eq_getElem (by rw [hlen]; exact hx))
      rw [add_plain, Nat.zero_add] at h1
      simpa [World.cell?, hh] using h1
    have hleaf : ∀ x (hx : x < (cellsL xs).length), (cellsL xs)[x].leaf = true := fun x hx => by
      obtain ⟨l, hl1, hl2⟩ := List.mem_flatten.1 (show (cellsL xs)[x] ∈ (xs.map D.cells).flatten from List.getElem_mem hx)
      obtain ⟨d, hd1, rfl⟩ := List.mem_map.1 hl1
      exact List.all_eq_true.1 (hsz d hd1).2 _ hl2
    refine (Del.delete_calls k cap i (i + 1) xs.length rfl hi hcap (by omega) w cs t hh hc (fun x u hx hu => ?_)).mono ?_
    · rw [hget x hx] at hu
      injection hu with hu
      subst hu
      have hx2 : x < (cellsL xs).length := by rw [hlen]; exact hx
      exact Rep.leafy (hleaf x hx2) (hrep x _ (List.getElem?_eq_getElem hx2))
    · rintro e w' ⟨rfl, cs', b1, b2, b3, b4, b5, b6, b7, b8⟩
      refine ⟨_, rfl, ?_, b4, b5, b6, b7, b8⟩
      have hl2 := cutAt_length hi
      have hOk : OkL 18 (cutAt xs i) := fun x hx => by
        unfold cutAt at hx
        rcases List.mem_append.1 hx with hx | hx
        · exact hsz x (List.mem_of_mem_take hx)
        · exact hsz x (List.mem_of_mem_drop hx)
      have hR : Rep [] (fun q => if q = k then (xs.length - 1) * 18 else s q) w' (.vec 18 (cutAt xs i) .none) (.slice (some ⟨k, 0, none⟩) (cutAt xs i).length cap) := by
        refine vec_new (.inl rfl) (by rw [hl2]; omega) hOk b1 (by simp [hl2]) (by rw [cellsL_length hOk.len, hl2, b2, hc]; have := hcap; omega) (fun j d hj => ?_)
        have hj1 := lt_of_get hj
        rw [cellsL_length hOk.len, hl2] at hj1
        have hb := b3 j hj1
        rw [cutAt_cells hsz] at hj
        by_cases c1 : j < i * 18
        · rw [List.getElem?_append_left (by simp [hlen]; omega), List.getElem?_take_of_lt c1] at hj
          rw [if_pos c1, hget j (by omega)] at hb
          rw [Array.getD_eq_getD_getElem?, hb]
          have hjm := List.mem_of_getElem? hj
          exact plain_repN (hp d hjm) (hrep j d hj) _ _
        · rw [List.getElem?_append_right (by simp [hlen]; omega), List.getElem?_drop] at hj
          rw [show (i + 1) * 18 + (j - ((cellsL xs).take (i * 18)).length) = j + 18 by simp [hlen]; omega] at hj
          rw [if_neg c1, hget (j + 18) (by omega)] at hb
          rw [Array.getD_eq_getD_getElem?, hb]
          have hjm := List.mem_of_getElem? hj
          exact plain_repN (hp d hjm) (hrep (j + 18) d hj) _ _
      have := RepO.fresh (bx := []) (s := fun q => if q = k then (xs.length - 1) * 18 else s q) (w := w') 18 (cutAt xs i) k cap cs' t hR (by simp [hl2]) b1 (by rw [b2]; exact hc)
      rw [hl2] at this
      exact this

end Go.Proofs.YtnhelkclkdfndaaDoor.V
