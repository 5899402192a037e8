/-
The table of types, out of the program's own.
-/
import Derived.Test.YtdmlojinmkcldaaDoorVZ
namespace Go.Proofs.YtdmlojinmkcldaaDoor.V
set_option linter.unusedSimpArgs false
set_option linter.unusedVariables false
open Go Go.RowKit

mutual
def ofZ : Value → Option D
  | .bool b => some (.bool b)
  | .int k n => some (.int k n)
  | .string s => some (.str s.data.toList)
  | .pointer .none => some .nilp
  | .slice .none 0 0 => some .nilsl
  | .nilFunc => some .nilfn
  | .nilIface => some .nili
  | .agg ⟨vs⟩ => match ofZL vs with
    | some ds => some (.agg ds)
    | .none => .none
  | _ => .none
def ofZL : List Value → Option (List D)
  | [] => some []
  | v :: vs => match ofZ v with
    | some d => match ofZL vs with
      | some ds => some (d :: ds)
      | .none => .none
    | .none => .none
end

theorem ofZ_rep (bx s : Nat → Nat) (w : World) : ∀ n, (∀ (v : Value) (d : D), SizeOf.sizeOf v ≤ n → ofZ v = some d → Rep bx s w d v) ∧
    ∀ (vs : List Value) (ds : List D), SizeOf.sizeOf vs ≤ n → ofZL vs = some ds → ds.length = vs.length ∧ ∀ (i : Nat) (d : D), ds[i]? = some d → ∃ v, vs[i]? = some v ∧ Rep bx s w d v := by
  intro n
  induction n with
  | zero =>
    refine ⟨fun v d hn => ?_, fun vs ds hn => ?_⟩
    · cases v <;> simp at hn
    · cases vs <;> simp at hn
  | succ n ih =>
    refine ⟨fun v d hn h => ?_, fun vs ds hn h => ?_⟩
    · unfold ofZ at h
      split at h
      · injection h with h; subst h; exact .bool _
      · injection h with h; subst h; exact .int _ _
      · injection h with h; subst h; exact .str _
      · injection h with h; subst h; exact .nilp
      · injection h with h; subst h; exact .nilsl
      · injection h with h; subst h; exact .nilfn
      · injection h with h; subst h; exact .nili
      · rename_i vs
        split at h
        · rename_i ds hds
          injection h with h; subst h
          obtain ⟨h1, h2⟩ := ih.2 vs ds (by simp at hn; omega) hds
          refine .agg _ _ (by simpa using h1) (fun i d hi => ?_)
          obtain ⟨v, hv, hr⟩ := h2 i d hi
          simp [Array.getD_eq_getD_getElem?, hv]; exact hr
        · cases h
      · cases h
    · cases vs with
      | nil => simp [ofZL] at h; subst h; exact ⟨rfl, fun i d hi => by simp at hi⟩
      | cons v vs =>
        simp only [ofZL] at h
        split at h
        · rename_i d hd
          split at h
          · rename_i ds' hds
            injection h with h; subst h
            have h0 := ih.1 v d (by simp at hn; omega) hd
            obtain ⟨h1, h2⟩ := ih.2 vs ds' (by simp at hn; omega) hds
            refine ⟨by simp [h1], fun i e hi => ?_⟩
            cases i with
            | zero => simp at hi; subst hi; exact ⟨v, rfl, h0⟩
            | succ i => simp at hi; obtain ⟨u, hu, hr⟩ := h2 i e hi; exact ⟨u, by simpa using hu, hr⟩
          · cases h
        · cases h

def tdOfDesc : TypeDesc → Option TD
  | .bool => some .bool
  | .int k => some (.int k)
  | .string => some .str
  | .pointer e => some (.ptr e)
  | .slice e => some (.slice e)
  | .array n e => some (.array n e)
  | .struct fields => if fields.toList.all (fun f => f.name != "_") then some (.struct (fields.toList.map fun f => (f.offset, f.type))) else .none
  | .interface _ => some .iface
  | .func .. => some .func
  | _ => some .other

def fldsOk (P : Program) : TD → Bool
  | .struct fs => fs.all fun f => (P.info? f.2).isSome
  | _ => true

def tabOf (P : Program) : Tab := fun t =>
  match P.info? t, P.underlying t with
  | some i, some u => match i.zero, tdOfDesc u with
    | some z, some td => match ofZ z with
      | some d => bif Nat.beq d.cells.length i.size && d.cells.all D.leaf && fldsOk P td then
          some ⟨td, i.size, i.bytes, d, !(P.eqGuardType P.depth t) && !(P.stoodInHeld t)⟩
        else .none
      | .none => .none
    | _, _ => .none
  | _, _ => .none

theorem tabOf_inv {P : Program} {t : TypeId} {ti : TI} (h : tabOf P t = some ti) : ∃ i u z d, P.info? t = some i ∧ P.underlying t = some u ∧ i.zero = some z ∧ tdOfDesc u = some ti.d ∧ ofZ z = some d ∧
    d.cells.length = i.size ∧ d.cells.all D.leaf = true ∧ fldsOk P ti.d = true ∧ ti.sz = i.size ∧ ti.bytes = i.bytes ∧ ti.zero = d ∧ (ti.cmp = true → P.eqGuardType P.depth t = false ∧ P.stoodInHeld t = false) := by
  unfold tabOf at h
  split at h
  · rename_i i u hi hu
    split at h
    · rename_i z td hz htd
      split at h
      · rename_i d hd
        cases hb : (Nat.beq d.cells.length i.size && d.cells.all D.leaf && fldsOk P td) with
        | false => rw [hb] at h; cases h
        | true =>
          rw [hb] at h
          simp only [cond_true] at h
          injection h with h; subst h
          simp only [Bool.and_eq_true] at hb
          exact ⟨i, u, z, d, hi, hu, hz, htd, hd, beq_of hb.1.1, hb.1.2, hb.2, rfl, rfl, rfl, fun hc => by simpa using hc⟩
      · cases h
    · cases h
  · cases h

theorem tabOf_ok (P : Program) : TabOk P (tabOf P) := by
  refine ⟨fun t ti h => ?_, fun t ti h => ?_, fun t ti h hc => ?_, fun t ti h hc => ?_, fun t ti h => ?_, fun t ti h => ?_, fun t ti fs h hfs f hf => ?_⟩ <;>
    obtain ⟨i, u, z, d, hi, hu, hz, htd, hd, h1, h2, h3, h4, h5, h6, h7⟩ := tabOf_inv h
  · cases u <;> simp only [tdOfDesc] at htd <;> try (injection htd with htd; rw [← htd]; first | exact hu | exact ⟨_, hu⟩ | exact ⟨_, _, _, hu⟩ | exact ⟨_, hu, fun _ e => (by cases e), fun _ _ e => (by cases e)⟩)
    rename_i fields
    split at htd
    · rename_i hall
      injection htd with htd
      rw [← htd]
      exact ⟨fields, hu, rfl, fun f hf => by simpa using List.all_eq_true.1 hall f hf⟩
    · cases htd
  · exact ⟨i, z, hi, h4.symm, h5.symm, hz, fun bx s w => by rw [h6]; exact (ofZ_rep bx s w _).1 z d (Nat.le_refl _) hd⟩
  · exact (h7 hc).1
  · exact (h7 hc).2
  · rw [h6, h4]; exact h1
  · rw [h6]; exact h2
  · rw [hfs] at h3
    simp only [fldsOk] at h3
    have := List.all_eq_true.1 h3 f hf
    exact Option.isSome_iff_exists.1 this

end Go.Proofs.YtdmlojinmkcldaaDoor.V
