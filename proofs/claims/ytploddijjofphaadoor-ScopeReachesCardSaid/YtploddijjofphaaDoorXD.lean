/-
A law's entry: all memory is stable; what the arguments read as.
-/
import Derived.Test.YtploddijjofphaaDoorXC
import Derived.ChangeShapes
import Derived.Carry
namespace Go.Proofs.YtploddijjofphaaDoor.V
set_option linter.unusedSimpArgs false
set_option linter.unusedVariables false
open Go Go.RowKit

/-- How many cells a block has. -/
def sizeAt (W : World) (k : Nat) : Nat :=
  match W.heap[k]? with
  | some (.cells cs _ _) => cs.size
  | _ => 0

def c0 (P : Program) (W : World) : Cx := { P := P, bx := [], mv := [], base := W.heap.size, w0 := W, we := W, s0 := sizeAt W }
def g0 (W : World) : Gh := { loc := fun _ => 0, tk := fun _ => 0, en := fun _ => 0, bs := fun _ => 0, ow := fun _ => false, bx := [], s := sizeAt W }

theorem FS.start (P : Program) (W : World) : FS ((c0 P W).at_ W (g0 W) []) (g0 W) [] [] [] W := by
  refine ⟨⟨rfl, rfl, rfl, Nat.le_refl _, fun _ _ => rfl⟩, Nat.le_refl _, Nat.le_refl _, rfl, fun _ _ h => h, fun k hk => ?_, fun k _ _ _ => ⟨rfl, rfl⟩, rfl, rfl, rfl, fun i ds hi => (by simp at hi), fun i hi => (by simp at hi), fun b k hb => (by simp [g0] at hb), fun k hk => ?_, fun k hk => (by cases hk), fun i ds hi => (by simp at hi), fun i ds k hi => (by simp at hi), fun i hi => (by simp at hi), fun x y hx hy he => ?_⟩
  · show sizeAt W k = 0
    unfold sizeAt
    rw [Array.getElem?_eq_none hk]
  · rcases hk with hk | hk <;> simp [Cx.at_, g0] at hk
  · cases x with
    | l i => obtain ⟨ds, hd⟩ := hx; simp at hd
    | t i => simp [live] at hx
    | b i => simp [live, g0] at hx

theorem cell_size {W : World} {b o : Nat} {v : Value} (h : W.cell? ⟨b, o, none⟩ = some v) : o < sizeAt W b := by
  unfold World.cell? at h
  unfold sizeAt
  split at h
  · rename_i cs t fr hb
    simp only at hb
    rw [hb]
    simp at h
    exact (Array.getElem?_eq_some_iff.1 h).1
  · cases h

/-- A row of the caller's, of single cells. -/
theorem rep_row {bx : List Nat} {W : World} {b off cap : Nat} {xs : List D} (vs : Nat → Value) (hcap : xs.length ≤ cap) (hleaf : ∀ x, x ∈ xs → x.leaf = true) (hc : ∀ (i : Nat) (d : D), xs[i]? = some d → W.cell? ⟨b, off + i, none⟩ = some (vs i) ∧ Rep bx (sizeAt W) W d (vs i)) :
    Rep bx (sizeAt W) W (.vec 1 xs .none) (.slice (some ⟨b, off, none⟩) xs.length cap) := by
  have hcl := cellsL_leaf hleaf
  refine .vec 1 xs .none _ cap vs (.inl rfl) hcap (fun x hx => by rw [leaf_cells (hleaf x hx)]; exact ⟨rfl, by simp [hleaf x hx]⟩) (fun i d hi => ?_) (fun i d hi => ?_) (fun hne => ?_)
  · rw [hcl] at hi; rw [add_plain]; exact (hc i d hi).1
  · rw [hcl] at hi; exact (hc i d hi).2
  · rw [hcl] at hne
    have hpos : 0 < xs.length := List.length_pos_iff.mpr hne
    have := cell_size (hc (xs.length - 1) _ (List.getElem?_eq_getElem (by omega))).1
    show off + xs.length * 1 ≤ sizeAt W b
    omega

/-- What a law that answers true does. -/
theorem law_of {P : Program} {W : World} {C : Callees} (hC : CallOK (c0 P W) C) {f : FuncId} {args : List D} {vs : Array Value} (h : C f args [] = some (.bool true, [])) (hl : args.length = vs.size)
    (ha : ∀ (i : Nat) (d : D), args[i]? = some d → ∃ v : Value, vs[i]? = some v ∧ Rep [] (sizeAt W) W d v) :
    Calls P f vs W fun e W' => e = .returned (.bool true) ∧ Below W.heap.size W W' := by
  obtain ⟨_, h2⟩ := hC f args [] (.bool true) [] h
  have hargs : RepOL (RepC (g0 W).bx (g0 W).s W) args vs.toList [] := repOL_clean (by simpa using hl) (fun i d hi => by
    obtain ⟨v, hv, hr⟩ := ha i d hi
    exact ⟨v, by rw [Array.getElem?_toList]; exact hv, hr⟩)
  have := h2 W (g0 W) vs.toList [] (FS.start P W) hargs List.nodup_nil (fun k hk => by cases hk)
  rw [Array.toArray_toList] at this
  refine this.mono (fun e W' he => ?_)
  obtain ⟨v, rfl, g', ks, hf, hr, _, _⟩ := he
  refine ⟨?_, hf.below⟩
  cases hr with
  | one _ _ _ hr =>
    cases hr with
    | one _ _ _ hr =>
      cases hr with
      | clean _ _ hr => cases hr; rfl

end Go.Proofs.YtploddijjofphaaDoor.V
