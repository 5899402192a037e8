/-
What a value of the interpreter says of a value of the machine, and of its memory; that it stays so.
-/
import Derived.Test.YtploddijjofphaaDoorUB
namespace Go.Proofs.YtploddijjofphaaDoor.V
set_option linter.unusedSimpArgs false
set_option linter.unusedVariables false
open Go Go.RowKit

theorem add_add (a : Addr) (i j : Nat) : (a.add i).add j = a.add (i + j) := by
  unfold Addr.add
  by_cases hi : i = 0
  · subst hi; by_cases hj : j = 0 <;> simp [hj]
  · by_cases hj : j = 0
    · subst hj; simp [hi]
    · simp [hi, hj]; omega

theorem add_block (a : Addr) (i : Nat) : (a.add i).block = a.block := by unfold Addr.add; split <;> rfl
theorem add_off (a : Addr) (i : Nat) : (a.add i).off = a.off + i := by unfold Addr.add; split <;> simp_all
theorem add_plain (b o i : Nat) : (⟨b, o, none⟩ : Addr).add i = ⟨b, o + i, none⟩ := by unfold Addr.add; split <;> simp_all

/-- The cells of a list's elements, one behind the other. -/
def cellsL (xs : List D) : List D := (xs.map D.cells).flatten

/-- Elements of so many cells each, all of them values of one cell. -/
def OkL (sz : Nat) (xs : List D) : Prop := ∀ x, x ∈ xs → x.cells.length = sz ∧ x.cells.all D.leaf = true

theorem OkL.len {sz : Nat} {xs : List D} (h : OkL sz xs) : ∀ x, x ∈ xs → x.cells.length = sz := fun x hx => (h x hx).1

theorem OkL.leaf {sz : Nat} {xs : List D} (h : OkL sz xs) {i : Nat} {d : D} (hi : (cellsL xs)[i]? = some d) : d.leaf = true := by
  have hm := List.mem_of_getElem? hi
  simp only [cellsL, List.mem_flatten, List.mem_map] at hm
  obtain ⟨_, ⟨x, hx, rfl⟩, hd⟩ := hm
  exact List.all_eq_true.1 (h x hx).2 d hd

/-- What is clean: it leads to nothing that may yet change. 's': of each block, how many cells, from its begin on, stay what they are. 'bx': where the boxes lie that all calls share. -/
inductive Rep (bx : List Nat) (s : Nat → Nat) (w : World) : D → Value → Prop
  | bool (b : Bool) : Rep bx s w (.bool b) (.bool b)
  | int (k : IntKind) (n : Int) : Rep bx s w (.int k n) (.int k n)
  | str (l : ByteArray) : Rep bx s w (.str l.data.toList) (.string l)
  | nilp : Rep bx s w .nilp (.pointer none)
  | nili : Rep bx s w .nili .nilIface
  | nilsl : Rep bx s w .nilsl (.slice none 0 0)
  | nilfn : Rep bx s w .nilfn .nilFunc
  | nilv (sz : Nat) (p : Perm) (hp : p = .none ∨ p = .exact) : Rep bx s w (.vec sz [] p) (.slice none 0 0)
  | bptr (b o k : Nat) (hk : bx[b]? = some k) : Rep bx s w (.bptr b o) (.pointer (some ⟨k, o, none⟩))
  | fptr (ds : List D) (a : Addr) (vs : Nat → Value) (hc : ∀ i d, ds[i]? = some d → w.cell? (a.add i) = some (vs i))
      (hr : ∀ i d, ds[i]? = some d → Rep bx s w d (vs i)) (hs : ds ≠ [] → a.off + ds.length ≤ s a.block) : Rep bx s w (.fptr ds) (.pointer (some a))
  | vec (sz : Nat) (xs : List D) (p : Perm) (a : Addr) (cap : Nat) (vs : Nat → Value) (hp : p = .none ∨ p = .exact ∧ cap = xs.length ∨ p = .real) (hcap : xs.length ≤ cap)
      (hsz : OkL sz xs)
      (hc : ∀ i d, (cellsL xs)[i]? = some d → w.cell? (a.add i) = some (vs i))
      (hr : ∀ i d, (cellsL xs)[i]? = some d → Rep bx s w d (vs i)) (hs : cellsL xs ≠ [] → a.off + xs.length * sz ≤ s a.block) : Rep bx s w (.vec sz xs p) (.slice (some a) xs.length cap)
  | iface (t : TypeId) (d : D) (v : Value) (h : Rep bx s w d v) : Rep bx s w (.iface t d) (.iface t v)
  | agg (ds : List D) (vs : Array Value) (hl : ds.length = vs.size) (h : ∀ i d, ds[i]? = some d → Rep bx s w d (vs.getD i undef)) : Rep bx s w (.agg ds) (.agg vs)
  | fn (f : FuncId) (ds : List D) (vs : Array Value) (hl : ds.length = vs.size) (h : ∀ i d, ds[i]? = some d → Rep bx s w d (vs.getD i undef)) : Rep bx s w (.fn f ds) (.func (.func f) #[] vs)

/-- What was stable is, and says the same. -/
structure Ev (bx : List Nat) (s : Nat → Nat) (w : World) (bx' : List Nat) (s' : Nat → Nat) (w' : World) : Prop where
  bx : ∀ (b k : Nat), bx[b]? = some k → bx'[b]? = some k
  le : ∀ k, k < w.heap.size → s k ≤ s' k
  cell : ∀ k o v, o < s k → w.cell? ⟨k, o, none⟩ = some v → w'.cell? ⟨k, o, none⟩ = some v

theorem Ev.refl (bx : List Nat) (s : Nat → Nat) (w : World) : Ev bx s w bx s w := ⟨fun _ _ h => h, fun _ _ => Nat.le_refl _, fun _ _ _ _ h => h⟩

theorem Ev.trans {bx bx' bx'' : List Nat} {s s' s'' : Nat → Nat} {w w' w'' : World} (hsz : w.heap.size ≤ w'.heap.size) (h : Ev bx s w bx' s' w') (h' : Ev bx' s' w' bx'' s'' w'') : Ev bx s w bx'' s'' w'' := by
  refine ⟨fun b k hb => h'.bx b k (h.bx b k hb), fun k hk => Nat.le_trans (h.le k hk) (h'.le k (Nat.lt_of_lt_of_le hk hsz)), fun k o v ho hc => ?_⟩
  have hk : k < w.heap.size := World.block_lt_of_cell? w _ hc
  exact h'.cell k o v (Nat.lt_of_lt_of_le ho (h.le k hk)) (h.cell k o v ho hc)

theorem cell_plain {w : World} {a : Addr} {v : Value} (h : w.cell? a = some v) : a = ⟨a.block, a.off, none⟩ := by
  have : a.spot = none := by
    unfold World.cell? at h
    split at h
    · split at h
      · cases h
      · rename_i hn; cases hs : a.spot <;> simp_all
    · cases h
  cases a; simp_all

theorem Ev.at_ {bx bx' : List Nat} {s s' : Nat → Nat} {w w' : World} (h : Ev bx s w bx' s' w') {a : Addr} {v : Value} (hc : w.cell? a = some v) (ho : a.off < s a.block) : w'.cell? a = some v := by
  have e := cell_plain hc
  rw [e] at hc ⊢
  exact h.cell _ _ _ ho hc

theorem lt_of_get {α : Type} {l : List α} {i : Nat} {x : α} (h : l[i]? = some x) : i < l.length := by
  rcases Nat.lt_or_ge i l.length with h' | h'
  · exact h'
  · rw [List.getElem?_eq_none h'] at h; cases h

theorem cellsL_length {sz : Nat} : ∀ {xs : List D}, (∀ x, x ∈ xs → x.cells.length = sz) → (cellsL xs).length = xs.length * sz
  | [], _ => by simp [cellsL]
  | x :: xs, h => by
    have ih := cellsL_length (sz := sz) (xs := xs) (fun y hy => h y (by simp [hy]))
    have hx := h x (by simp)
    simp only [cellsL, List.map_cons, List.flatten_cons, List.length_append, List.length_cons] at ih ⊢
    rw [ih, hx, Nat.add_mul]; omega

theorem cellsL_append (xs ys : List D) : cellsL (xs ++ ys) = cellsL xs ++ cellsL ys := by simp [cellsL]

theorem cellsL_drop {sz : Nat} : ∀ (n : Nat) {xs : List D}, (∀ x, x ∈ xs → x.cells.length = sz) → cellsL (xs.drop n) = (cellsL xs).drop (n * sz)
  | 0, _, _ => by simp
  | n + 1, [], _ => by simp [cellsL]
  | n + 1, x :: xs, h => by
    have ih := cellsL_drop (sz := sz) n (xs := xs) (fun y hy => h y (by simp [hy]))
    have hx := h x (by simp)
    simp only [List.drop_succ_cons, ih]
    simp only [cellsL, List.map_cons, List.flatten_cons]
    rw [show (n + 1) * sz = x.cells.length + n * sz by rw [hx, Nat.add_mul]; omega, List.drop_append]
    simp

theorem cellsL_take {sz : Nat} : ∀ (n : Nat) {xs : List D}, (∀ x, x ∈ xs → x.cells.length = sz) → cellsL (xs.take n) = (cellsL xs).take (n * sz)
  | 0, _, _ => by simp [cellsL]
  | n + 1, [], _ => by simp [cellsL]
  | n + 1, x :: xs, h => by
    have ih := cellsL_take (sz := sz) n (xs := xs) (fun y hy => h y (by simp [hy]))
    have hx := h x (by simp)
    simp only [List.take_succ_cons]
    simp only [cellsL, List.map_cons, List.flatten_cons] at ih ⊢
    rw [ih, show (n + 1) * sz = x.cells.length + n * sz by rw [hx, Nat.add_mul]; omega, List.take_append]
    simp [List.take_of_length_le]

theorem Rep.mono {bx bx' : List Nat} {s s' : Nat → Nat} {w w' : World} (hev : Ev bx s w bx' s' w') {d : D} {v : Value} (h : Rep bx s w d v) : Rep bx' s' w' d v := by
  induction h with
  | bool b => exact .bool b
  | int k n => exact .int k n
  | str l => exact .str l
  | nilp => exact .nilp
  | nili => exact .nili
  | nilsl => exact .nilsl
  | nilfn => exact .nilfn
  | nilv sz p hp => exact .nilv sz p hp
  | bptr b o k hk => exact .bptr b o k (hev.bx b k hk)
  | fptr ds a vs hc hr hs ih =>
    refine .fptr ds a vs (fun i d hi => ?_) ih (fun hne => ?_)
    · refine hev.at_ (hc i d hi) ?_
      have := hs (by rintro rfl; simp at hi)
      have := lt_of_get hi
      rw [add_block, add_off]; omega
    · have h0 : ds[0]? = some (ds.head hne) := by cases ds with | nil => exact absurd rfl hne | cons x xs => rfl
      have hb : a.block < w.heap.size := by have := World.block_lt_of_cell? w _ (hc 0 _ h0); rwa [add_block] at this
      exact Nat.le_trans (hs hne) (hev.le _ hb)
  | vec sz xs p a cap vs hp hcap hsz hc hr hs ih =>
    have hlen := cellsL_length hsz.len
    refine .vec sz xs p a cap vs hp hcap hsz (fun i d hi => ?_) ih (fun hne => ?_)
    · refine hev.at_ (hc i d hi) ?_
      have hl := lt_of_get hi
      have hne : cellsL xs ≠ [] := by intro h0; rw [h0] at hi; simp at hi
      have := hs hne
      rw [add_block, add_off]; omega
    · have hpos : 0 < (cellsL xs).length := List.length_pos_iff.mpr hne
      have hb : a.block < w.heap.size := by
        have := World.block_lt_of_cell? w _ (hc 0 _ (List.getElem?_eq_getElem hpos)); rwa [add_block] at this
      exact Nat.le_trans (hs hne) (hev.le _ hb)
  | iface t d v h ih => exact .iface t d v ih
  | agg ds vs hl h ih => exact .agg ds vs hl ih
  | fn f ds vs hl h ih => exact .fn f ds vs hl ih

end Go.Proofs.YtploddijjofphaaDoor.V
