/-
Layer 18: PinsOnce's argument.
-/
import Derived.Test.YtnhelkclkdfndaaDoorRV
namespace Go.Proofs.YtnhelkclkdfndaaDoor.V
open Go Go.RowKit
set_option linter.unusedSimpArgs false
set_option linter.unusedVariables false

set_option maxRecDepth 100000 in
theorem arg_prs {H : Type} {enc : TypeId × Value → H} {base : Nat} {spare : Nat → Bool} {held : Bool} {W : World} {r : Reach} {b0 : Nat} {v : Value} {d : DataW H} {ps : List MemPlace} (hval : Value.okWide Tryd.prog W r b0 60 v) (hd : DataW.Trod enc Tryd.prog W base spare held 60 v d ps) :
    ∃ l : List (Nat × Nat), (∀ x, x ∈ l → x.1 < 256 ∧ x.2 < 256) ∧ Rep [] (sizeAt W) W (prs l) v := by
  obtain ⟨x, h1, h2⟩ := arg_rows (n := 5) (e := 62) (ls := [.int .u8, .int .u8]) (by kernel_rfl) (by kernel_rfl) hval hd
  obtain ⟨xs, rfl, hl, h3, h4⟩ := h1.rows'
  obtain ⟨l, h5, h6, h7⟩ := map_of (f := prD) (Q := fun x => x.1 < 256 ∧ x.2 < 256) xs (fun x hx => by
    obtain ⟨a, b, rfl⟩ := len2 (h3 x hx)
    obtain ⟨m, rfl, hm⟩ := (h4 _ 0 _ a hx rfl rfl).u8
    obtain ⟨k, rfl, hk⟩ := (h4 _ 1 _ b hx rfl rfl).u8
    exact ⟨(m, k), rfl, hm, hk⟩)
  rw [h5] at h2
  exact ⟨l, h6, h2⟩

end Go.Proofs.YtnhelkclkdfndaaDoor.V
