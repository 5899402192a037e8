/-
A function that asks whether its slice is nil: known by its two runs.
-/
import Derived.Test.YtploddijjofphaaDoorXN
namespace Go.Proofs.YtploddijjofphaaDoor.V
set_option linter.unusedSimpArgs false
set_option linter.unusedVariables false
open Go Go.RowKit

variable {c : Cx} {g : Gh} {w : World}

theorem repC_none {bx : List Nat} {s : Nat → Nat} {sz : Nat} {xs : List D} {v : Value} {ks : List Nat} (h : RepC bx s w (.vec sz xs .none) v ks) : ks = [] ∧ Rep bx s w (.vec sz xs .none) v := by
  cases h with
  | one _ _ _ h => cases h with | clean _ _ h => exact ⟨rfl, h⟩

theorem CallOK.or_nil {C C0 : Callees} (hC : CallOK c C) (h0 : CallOK c C0) {f : FuncId} {h : List D → Hp → Option (D × Hp)}
    (hh : ∀ args B r, h args B = some r → ∃ sz xs, args = [.vec sz xs .none] ∧ C0 f [.vec sz xs .real] B = some r ∧ (xs = [] → C0 f [.nilsl] B = some r)) : CallOK c (V.upd C f h) := fun f' args B r B' hu => by
  unfold V.upd at hu
  cases hb : Nat.beq f f' with
  | true =>
    rw [hb] at hu
    simp only [cond_true] at hu
    obtain rfl := Nat.eq_of_beq_eq_true hb
    obtain ⟨sz, xs, rfl, h1, h2⟩ := hh args B _ hu
    refine ⟨(h0 f _ B r B' h1).1, fun w g vs ks hf ha hnd hnb => ?_⟩
    obtain ⟨v, rfl, hr⟩ := one_arg ha
    obtain ⟨hks, hr2⟩ := repC_none hr
    subst hks
    clear ha hr
    cases hr2 with
    | nilv _ _ hp => exact (h0 f _ B r B' (h2 rfl)).2 w g _ [] hf (.cons _ _ [] _ _ [] (.one _ _ _ (.clean _ _ .nilsl)) .nil) hnd hnb
    | vec _ _ _ a cap f hp hcap hsz hc hr hs => exact (h0 _ _ B r B' h1).2 w g _ [] hf (.cons _ _ [] _ _ [] (.one _ _ _ (.clean _ _ (.vec sz xs .real a cap f (.inr (.inr rfl)) hcap hsz hc hr hs))) .nil) hnd hnb
  | false =>
    rw [hb] at hu
    exact hC f' args B r B' hu

/-- A copy. -/
def cloneV (sz bytes : Nat) : List D → Hp → Option (D × Hp)
  | [.vec s xs p], B => match p with
    | .none => if s = sz ∧ roomy xs.length bytes = true then some (.vec sz xs .fresh, B) else .none
    | _ => .none
  | _, _ => .none

theorem cloneV_inv {sz bytes : Nat} {args : List D} {B : Hp} {r : D × Hp} (h : cloneV sz bytes args B = some r) : ∃ xs, args = [.vec sz xs .none] ∧ roomy xs.length bytes = true ∧ r = (.vec sz xs .fresh, B) := by
  unfold cloneV at h
  split at h
  · split at h
    · split at h
      · rename_i hc
        obtain ⟨rfl, h2⟩ := hc
        injection h with h
        exact ⟨_, rfl, h2, h.symm⟩
      · cases h
    · cases h
  · cases h

end Go.Proofs.YtploddijjofphaaDoor.V
