/-
pins.Close, by hand: as a callee of the interpreter.
-/
import Derived.Test.YtnhelkclkdfndaaDoorDE
namespace Go.Proofs.YtnhelkclkdfndaaDoor.V
open Go Go.RowKit
set_option linter.unusedSimpArgs false
set_option linter.unusedVariables false

variable {c : Cx} {g : Gh} {w : World}

open Classical in
/-- Without a reader. -/
noncomputable def closeV (C : Callees) : List D → Hp → Option (D × Hp)
  | [.agg [.int .u64 n, .vec 18 xs .none], .int .u64 id], [] =>
    if 0 ≤ n ∧ 0 ≤ id ∧ xs.length ≤ 1000 ∧ (cellsL xs).all D.plain = true ∧ C 78 [.vec 18 xs .none] [] = some (.vec 18 xs .fresh, []) then
      match C 79 [.agg [.int .u64 n, .vec 18 xs .none], .int .u64 id] [] with
      | some (.tuple [.int .i64 z, .nili], []) => if 0 ≤ z ∧ z.toNat < xs.length then some (.tuple [.agg [.int .u64 n, .vec 18 (cutAt xs z.toNat) .fresh], .nili], []) else .none
      | some (.tuple [.int .i64 z, .iface t (.int .i64 m)], []) => if t = 163 then some (.tuple [.agg [.int .u64 0, .vec 18 [] .fresh], .iface 163 (.int .i64 m)], []) else .none
      | _ => .none
    else .none
  | _, _ => .none

theorem closeV_inv {C : Callees} {args : List D} {B : Hp} {r : D × Hp} (h : closeV C args B = some r) : ∃ n id xs, args = [.agg [.int .u64 n, .vec 18 xs .none], .int .u64 id] ∧ B = [] ∧ 0 ≤ n ∧ 0 ≤ id ∧ xs.length ≤ 1000 ∧ (cellsL xs).all D.plain = true ∧ C 78 [.vec 18 xs .none] [] = some (.vec 18 xs .fresh, []) ∧
    ((∃ z, C 79 [.agg [.int .u64 n, .vec 18 xs .none], .int .u64 id] [] = some (.tuple [.int .i64 z, .nili], []) ∧ 0 ≤ z ∧ z.toNat < xs.length ∧ r = (.tuple [.agg [.int .u64 n, .vec 18 (cutAt xs z.toNat) .fresh], .nili], [])) ∨
      ∃ z m, C 79 [.agg [.int .u64 n, .vec 18 xs .none], .int .u64 id] [] = some (.tuple [.int .i64 z, .iface 163 (.int .i64 m)], []) ∧ r = (.tuple [.agg [.int .u64 0, .vec 18 [] .fresh], .iface 163 (.int .i64 m)], [])) := by
  unfold closeV at h
  split at h
  · split at h
    · rename_i hc
      obtain ⟨h1, h2, h3, h4, h5⟩ := hc
      refine ⟨_, _, _, rfl, rfl, h1, h2, h3, h4, h5, ?_⟩
      split at h
      · rename_i z ha
        split at h
        · rename_i hz
          injection h with h
          exact .inl ⟨z, ha, hz.1, hz.2, h.symm⟩
        · cases h
      · rename_i z t m ha
        split at h
        · rename_i ht
          subst ht
          injection h with h
          exact .inr ⟨z, m, ha, h.symm⟩
        · cases h
      · cases h
    · cases h
  · cases h

theorem repC_pins {bx : List Nat} {s : Nat → Nat} {n : Int} {xs : List D} {v : Value} {ks : List Nat} (h : RepC bx s w (.agg [.int .u64 n, .vec 18 xs .none]) v ks) : ∃ S, v = .agg #[.int .u64 n, S] ∧ Rep bx s w (.vec 18 xs .none) S ∧ ks = [] := by
  cases h with
  | one _ _ _ h => cases h with
    | clean _ _ h => cases h with
      | agg _ vs hl h =>
        have h0 := h 0 _ rfl
        have h1 := h 1 _ rfl
        refine ⟨vs.getD 1 Go.undef, ?_, h1, rfl⟩
        have e0 : vs.getD 0 Go.undef = .int .u64 n := by generalize vs.getD 0 Go.undef = u at h0; cases h0; rfl
        have hl : vs.size = 2 := hl.symm
        rw [← e0]
        congr 1
        apply Array.ext
        · simp [hl]
        · intro i h1 h2
          match i, h1, h2 with
          | 0, h1, h2 => simp [Array.getD_eq_getD_getElem?, hl]
          | 1, h1, h2 => simp [Array.getD_eq_getD_getElem?, hl]
          | i + 2, h1, h2 => omega
  | agg _ _ _ h => cases h with
    | cons _ v1 k1 _ _ _ h1 h2 => cases h2 with
      | cons _ v2 k2 _ _ _ h3 h4 => cases h4 with
        | nil => cases h1 with
          | clean _ _ h1 => cases h3 with
            | clean _ _ h3 =>
              cases h1
              exact ⟨v2, rfl, h3, rfl⟩

theorem prim_close {C C2 : Callees} (hP : c.P = Tryd.prog) (hC : CallOK c C) (hC2 : CallOK c C2) : CallOK c (upd C2 18 (closeV C)) := by
  refine hC2.prim ⟨Tryd.f18, by rw [hP]; exact Tryd.func18, by kernel_rfl, by kernel_rfl⟩ (fun args B r B' h w g vs ks hf ha hnd hnb => ?_)
  obtain ⟨n, id, xs, rfl, rfl, hn, hid, hm, hp, hcl, hr⟩ := closeV_inv h
  have hbx : g.bx = [] := List.length_eq_zero_iff.1 hf.nB.symm
  rw [hbx] at ha
  cases ha with
  | cons _ v1 k1 _ _ _ h1 h2 => cases h2 with
    | cons _ v2 k2 _ _ _ h3 h4 => cases h4 with
      | nil =>
        obtain ⟨S, rfl, hS, rfl⟩ := repC_pins h1
        obtain ⟨rfl, rfl⟩ : v2 = .int .u64 id ∧ k2 = [] := by
          cases h3 with
          | one _ _ _ h3 => cases h3 with
            | clean _ _ h3 => cases h3; exact ⟨rfl, rfl⟩
        obtain ⟨n, rfl⟩ : ∃ m : Nat, n = m := ⟨n.toNat, by omega⟩
        obtain ⟨id, rfl⟩ : ∃ m : Nat, id = m := ⟨id.toNat, by omega⟩
        have hp' : ∀ d, d ∈ cellsL xs → d.plain = true := fun d hd => List.all_eq_true.1 hp d hd
        rcases hr with ⟨z, hat, hz, hzl, hr⟩ | ⟨z, m, hat, hr⟩
        · injection hr with hr1 hr2
          subst hr1; subst hr2
          obtain ⟨i, rfl⟩ : ∃ i : Nat, z = i := ⟨z.toNat, by omega⟩
          have e : ((i : Int)).toNat = i := Int.toNat_natCast i
          rw [e] at hzl ⊢
          refine (close_calls hP hC hf n id hS hp' hm hzl hat hcl).mono ?_
          rintro e w' ⟨S', s', k, rfl, hl, hv, hk⟩
          refine ⟨_, rfl, { g with s := s' }, [k], hf.scratchN s' hl.heap hl.size hl.os hl.tape hl.output hl.same hl.zero, ?_, by simp, fun q hq => ?_⟩
          · rw [show ({ g with s := s' } : Gh).bx = [] from hbx]
            exact .tuple [.agg [.int .u64 n, .vec 18 (cutAt xs i) .fresh], .nili] [.agg #[.int .u64 n, S'], .nilIface] [k]
              (.cons _ _ [k] _ _ [] (.agg [.int .u64 n, .vec 18 (cutAt xs i) .fresh] [.int .u64 n, S'] [k] (.cons _ _ [] _ _ [k] (.clean _ _ (.int _ _)) (.cons _ _ [k] _ _ [] hv .nil))) (.cons _ _ [] _ _ [] (.one _ _ _ (.clean _ _ .nili)) .nil))
          · obtain rfl : q = k := by simpa using hq
            exact ⟨.inl hk, by rw [show ({ g with s := s' } : Gh).bx = [] from hbx]; simp⟩
        · injection hr with hr1 hr2
          subst hr1; subst hr2
          refine (close_fails hP hC hf n id hS z m hat).mono ?_
          rintro e w' ⟨s', rfl, hl⟩
          refine ⟨_, rfl, { g with s := s' }, [], hf.scratchN s' hl.heap hl.size hl.os hl.tape hl.output hl.same hl.zero, ?_, List.nodup_nil, fun q hq => by cases hq⟩
          rw [show ({ g with s := s' } : Gh).bx = [] from hbx]
          exact .tuple [.agg [.int .u64 0, .vec 18 [] .fresh], .iface 163 (.int .i64 m)] [.agg #[.int .u64 0, .slice none 0 0], .iface 163 (.int .i64 m)] []
            (.cons _ _ [] _ _ [] (.agg [.int .u64 0, .vec 18 [] .fresh] [.int .u64 0, .slice none 0 0] [] (.cons _ _ [] _ _ [] (.clean _ _ (.int _ _)) (.cons _ _ [] _ _ [] (.tight 18 _ (.nilv _ _ (.inr rfl))) .nil))) (.cons _ _ [] _ _ [] (.one _ _ _ (.clean _ _ (.iface _ _ _ (.int _ _)))) .nil))

end Go.Proofs.YtnhelkclkdfndaaDoor.V
