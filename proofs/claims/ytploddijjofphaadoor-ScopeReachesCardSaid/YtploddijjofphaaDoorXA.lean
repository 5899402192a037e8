/-
The table of types, out of the program's own.
-/
import Derived.Test.YtploddijjofphaaDoorUZ
namespace Go.Proofs.YtploddijjofphaaDoor.V
set_option linter.unusedSimpArgs false
set_option linter.unusedVariables false
open Go Go.RowKit

mutual
def ofZ : Value → Option D
  | .bool b => some (.bool b)
  | .int k n => some (.int k n)
  | .string s => some (.str s.data.toList)
  | .pointer .none => some .nilp
  | .slice .none 0 0 => some .nilsl
  | .nilFunc => some .nilfn
  | .nilIface => some .nili
  | .agg ⟨vs⟩ => match ofZL vs with
    | some ds => some (.agg ds)
    | .none => .none
  | _ => .none
def ofZL : List Value → Option (List D)
  | [] => some []
  | v :: vs => match ofZ v with
    | some d => match ofZL vs with
      | some ds => some (d :: ds)
      | .none => .none
    | .none => .none
end

theorem ofZ_rep (bx : List Nat) (s : Nat → Nat) (w : World) : ∀ n, (∀ (v : Value) (d : D), SizeOf.sizeOf v ≤ n → ofZ v = some d → Rep bx s w d v) ∧
    ∀ (vs : List Value) (ds : List D), SizeOf.sizeOf vs ≤ n → ofZL vs = some ds → ds.length = vs.length ∧ ∀ (i : Nat) (d : D), ds[i]? = some d → ∃ v, vs[i]? = some v ∧ Rep bx s w d v := by
  intro n
  induction n with
  | zero =>
    refine ⟨fun v d hn => ?_, fun vs ds hn => ?_⟩
    · cases v <;> simp at hn
    · cases vs <;> simp at hn
  | succ n ih =>
    refine ⟨fun v d hn h => ?_, fun vs ds hn h => ?_⟩
    · unfold ofZ at h
      split at h
      · injection h with h; subst h; exact .bool _
      · injection h with h; subst h; exact .int _ _
      · injection h with h; subst h; exact .str _
      · injection h with h; subst h; exact .nilp
      · injection h with h; subst h; exact .nilsl
      · injection h with h; subst h; exact .nilfn
      · injection h with h; subst h; exact .nili
      · rename_i vs
        split at h
        · rename_i ds hds
          injection h with h; subst h
          obtain ⟨h1, h2⟩ := ih.2 vs ds (by simp at hn; omega) hds
          refine .agg _ _ (by simpa using h1) (fun i d hi => ?_)
          obtain ⟨v, hv, hr⟩ := h2 i d hi
          simp [Array.getD_eq_getD_getElem?, hv]; exact hr
        · cases h
      · cases h
    · cases vs with
      | nil => simp [ofZL] at h; subst h; exact ⟨rfl, fun i d hi => by simp at hi⟩
      | cons v vs =>
        simp only [ofZL] at h
        split at h
        · rename_i d hd
          split at h
          · rename_i ds' hds
            injection h with h; subst h
            have h0 := ih.1 v d (by simp at hn; omega) hd
            obtain ⟨h1, h2⟩ := ih.2 vs ds' (by simp at hn; omega) hds
            refine ⟨by simp [h1], fun i e hi => ?_⟩
            cases i with
            | zero => simp at hi; subst hi; exact ⟨v, rfl, h0⟩
            | succ i => simp at hi; obtain ⟨u, hu, hr⟩ := h2 i e hi; exact ⟨u, by simpa using hu, hr⟩
          · cases h
        · cases h

/-- A nil slice, by its type. -/
def fixZ (P : Program) (u : TypeId) : D → D
  | .nilsl => match P.underlying u with
    | some (.slice e) => .vec (P.cellsOf e) [] .exact
    | _ => .nilsl
  | d => d

def fixL (P : Program) (ts : List TypeId) : Nat → List D → List D
  | _, [] => []
  | k, d :: ds => fixZ P (ts.getD (k % ts.length) 0) d :: fixL P ts (k + 1) ds

def fixD (P : Program) (t : TypeId) : D → D
  | .agg ds => .agg (fixL P ((P.cellTypes P.depth t).getD []) 0 ds)
  | d => fixZ P t d

theorem fixZ_rep {bx : List Nat} {s : Nat → Nat} {w : World} (P : Program) (u : TypeId) {d : D} {v : Value} (h : Rep bx s w d v) : Rep bx s w (fixZ P u d) v := by
  unfold fixZ
  split
  · split
    · cases h; exact .nilv _ _ (.inr rfl)
    · exact h
  · exact h

theorem fixL_get (P : Program) (ts : List TypeId) : ∀ (k : Nat) (ds : List D) (i : Nat), (fixL P ts k ds)[i]? = (ds[i]?).map (fixZ P (ts.getD ((k + i) % ts.length) 0))
  | k, [], i => by simp [fixL]
  | k, d :: ds, 0 => by simp [fixL]
  | k, d :: ds, i + 1 => by
    simp only [fixL, List.getElem?_cons_succ]
    rw [fixL_get P ts (k + 1) ds i, show k + 1 + i = k + (i + 1) by omega]

theorem fixL_len (P : Program) (ts : List TypeId) : ∀ (k : Nat) (ds : List D), (fixL P ts k ds).length = ds.length
  | _, [] => rfl
  | k, d :: ds => by simp [fixL, fixL_len P ts (k + 1) ds]

theorem fixD_rep {bx : List Nat} {s : Nat → Nat} {w : World} (P : Program) (t : TypeId) {d : D} {v : Value} (h : Rep bx s w d v) : Rep bx s w (fixD P t d) v := by
  cases d with
  | agg ds =>
    cases h with
    | agg _ vs hl h =>
      refine .agg _ _ (by rw [fixL_len]; exact hl) (fun i e hi => ?_)
      rw [fixL_get] at hi
      cases hq : ds[i]? with
      | none => rw [hq] at hi; cases hi
      | some y => rw [hq] at hi; injection hi with hi; subst hi; exact fixZ_rep P _ (h i y hq)
  | _ => exact fixZ_rep P t h

def tdOfDesc : TypeDesc → Option TD
  | .bool => some .bool
  | .int k => some (.int k)
  | .string => some .str
  | .pointer e => some (.ptr e)
  | .slice e => some (.slice e)
  | .array n e => some (.array n e)
  | .struct fields => if fields.toList.all (fun f => f.name != "_") then some (.struct (fields.toList.map fun f => (f.offset, f.type))) else .none
  | .interface _ => some .iface
  | .func .. => some .func
  | _ => some .other

def fldsOk (P : Program) : TD → Bool
  | .struct fs => fs.all fun f => (P.info? f.2).isSome
  | _ => true

def tabOf (P : Program) : Tab := fun t =>
  match P.info? t, P.underlying t with
  | some i, some u => match i.zero, tdOfDesc u with
    | some z, some td => match ofZ z with
      | some d => bif Nat.beq (fixD P t d).cells.length i.size && (fixD P t d).cells.all D.leaf && fldsOk P td then
          some ⟨td, i.size, i.bytes, fixD P t d, !(P.eqGuardType P.depth t) && !(P.stoodInHeld t)⟩
        else .none
      | .none => .none
    | _, _ => .none
  | _, _ => .none

theorem tabOf_inv {P : Program} {t : TypeId} {ti : TI} (h : tabOf P t = some ti) : ∃ i u z d, P.info? t = some i ∧ P.underlying t = some u ∧ i.zero = some z ∧ tdOfDesc u = some ti.d ∧ ofZ z = some d ∧
    (fixD P t d).cells.length = i.size ∧ (fixD P t d).cells.all D.leaf = true ∧ fldsOk P ti.d = true ∧ ti.sz = i.size ∧ ti.bytes = i.bytes ∧ ti.zero = fixD P t d ∧ (ti.cmp = true → P.eqGuardType P.depth t = false ∧ P.stoodInHeld t = false) := by
  unfold tabOf at h
  split at h
  · rename_i i u hi hu
    split at h
    · rename_i z td hz htd
      split at h
      · rename_i d hd
        cases hb : (Nat.beq (fixD P t d).cells.length i.size && (fixD P t d).cells.all D.leaf && fldsOk P td) with
        | false => rw [hb] at h; cases h
        | true =>
          rw [hb] at h
          simp only [cond_true] at h
          injection h with h; subst h
          simp only [Bool.and_eq_true] at hb
          exact ⟨i, u, z, d, hi, hu, hz, htd, hd, beq_of hb.1.1, hb.1.2, hb.2, rfl, rfl, rfl, fun hc => by simpa using hc⟩
      · cases h
    · cases h
  · cases h

theorem tabOf_ok (P : Program) : TabOk P (tabOf P) := by
  refine ⟨fun t ti h => ?_, fun t ti h => ?_, fun t ti h hc => ?_, fun t ti h hc => ?_, fun t ti h => ?_, fun t ti h => ?_, fun t ti fs h hfs f hf => ?_⟩ <;>
    obtain ⟨i, u, z, d, hi, hu, hz, htd, hd, h1, h2, h3, h4, h5, h6, h7⟩ := tabOf_inv h
  · cases u <;> simp only [tdOfDesc] at htd <;> try (injection htd with htd; rw [← htd]; first | exact hu | exact ⟨_, hu⟩ | exact ⟨_, _, _, hu⟩ | exact ⟨_, hu, fun _ e => (by cases e), fun _ _ e => (by cases e)⟩)
    rename_i fields
    split at htd
    · rename_i hall
      injection htd with htd
      rw [← htd]
      exact ⟨fields, hu, rfl, fun f hf => by simpa using List.all_eq_true.1 hall f hf⟩
    · cases htd
  · exact ⟨i, z, hi, h4.symm, h5.symm, hz, fun bx s w => by rw [h6]; exact fixD_rep P t ((ofZ_rep bx s w _).1 z d (Nat.le_refl _) hd)⟩
  · exact (h7 hc).1
  · exact (h7 hc).2
  · rw [h6, h4]; exact h1
  · rw [h6]; exact h2
  · rw [hfs] at h3
    simp only [fldsOk] at h3
    have := List.all_eq_true.1 h3 f hf
    exact Option.isSome_iff_exists.1 this

end Go.Proofs.YtploddijjofphaaDoor.V
