/-
The operations on two values; fields and places of values; values as interfaces.
-/
import Derived.Test.YtploddijjofphaaDoorUH
namespace Go.Proofs.YtploddijjofphaaDoor.V
set_option linter.unusedSimpArgs false
set_option linter.unusedVariables false
open Go Go.RowKit

variable {c : Cx} {g : Gh} {nL : Nat → Prop} {nT : Nat} {w : World}

section eqs
variable {P : Program} {t : TypeId}
theorem eqIn_nn {ms : Array (String × TypeId)} (hu : P.underlying t = some (.interface ms)) (d : Nat) : (Op.equalIn (d + 1) t .nilIface .nilIface).run P w = .ok true w := by
  simp [Op.equalIn, run_underlying hu]
theorem eqIn_in {ms : Array (String × TypeId)} (hu : P.underlying t = some (.interface ms)) (u : TypeId) (v : Value) (d : Nat) : (Op.equalIn (d + 1) t (.iface u v) .nilIface).run P w = .ok false w := by
  simp [Op.equalIn, run_underlying hu]
theorem eqIn_ni {ms : Array (String × TypeId)} (hu : P.underlying t = some (.interface ms)) (u : TypeId) (v : Value) (d : Nat) : (Op.equalIn (d + 1) t .nilIface (.iface u v)).run P w = .ok false w := by
  simp [Op.equalIn, run_underlying hu]
theorem eqIn_sl {e : TypeId} (hu : P.underlying t = some (.slice e)) (a : Option Addr) (l k : Nat) (d : Nat) : (Op.equalIn (d + 1) t (.slice a l k) (.slice none 0 0)).run P w = .ok a.isNone w := by
  cases a <;> simp [Op.equalIn, run_underlying hu]
theorem eqIn_pn {e : TypeId} (hu : P.underlying t = some (.pointer e)) (a : Option Addr) (d : Nat) : (Op.equalIn (d + 1) t (.pointer a) (.pointer none)).run P w = .ok a.isNone w := by
  cases a <;> simp [Op.equalIn, run_underlying hu]
theorem eqIn_bb (hu : P.underlying t = some .bool) (a b : Bool) (d : Nat) : (Op.equalIn (d + 1) t (.bool a) (.bool b)).run P w = .ok (a == b) w := by
  simp [Op.equalIn, run_underlying hu]
theorem eq_nn {ms : Array (String × TypeId)} (hu : P.underlying t = some (.interface ms)) : (Op.equal t .nilIface .nilIface).run P w = .ok true w := eqIn_nn hu 9999
theorem eq_in {ms : Array (String × TypeId)} (hu : P.underlying t = some (.interface ms)) (u : TypeId) (v : Value) : (Op.equal t (.iface u v) .nilIface).run P w = .ok false w := eqIn_in hu u v 9999
theorem eq_ni {ms : Array (String × TypeId)} (hu : P.underlying t = some (.interface ms)) (u : TypeId) (v : Value) : (Op.equal t .nilIface (.iface u v)).run P w = .ok false w := eqIn_ni hu u v 9999
theorem eq_sl {e : TypeId} (hu : P.underlying t = some (.slice e)) (a : Option Addr) (l k : Nat) : (Op.equal t (.slice a l k) (.slice none 0 0)).run P w = .ok a.isNone w := eqIn_sl hu a l k 9999
theorem eq_pn {e : TypeId} (hu : P.underlying t = some (.pointer e)) (a : Option Addr) : (Op.equal t (.pointer a) (.pointer none)).run P w = .ok a.isNone w := eqIn_pn hu a 9999
theorem eq_bb (hu : P.underlying t = some .bool) (a b : Bool) : (Op.equal t (.bool a) (.bool b)).run P w = .ok (a == b) w := eqIn_bb hu a b 9999
end eqs

theorem guard_ite {P : Program} (b : Bool) (s : Sem Unit) (h : s.run P w = .ok () w) : (if (!b) = true then (pure () : Sem Unit) else s).run P w = .ok () w := by
  cases b
  · rfl
  · exact h

theorem guard_nn {P : Program} {op : BinOp} {t : TypeId} {x y : Operand} (h : (isConst x || isConst y) = true) : (eqGuard op t x y .nilIface .nilIface).run P w = .ok () w := by
  unfold eqGuard
  refine guard_ite _ _ ?_
  cases x <;> cases y <;> first | rfl | (simp [isConst] at h)

theorem guard_agg {P : Program} {op : BinOp} {t : TypeId} {x y : Operand} (us vs : Array Value) (h : P.eqGuardType P.depth t = false) : (eqGuard op t x y (.agg us) (.agg vs)).run P w = .ok () w := by
  unfold eqGuard
  refine guard_ite _ _ ?_
  simp [h]

theorem op_bin_run {st : St} {a : Act} {o : Oper} {op : BinOp} {t u : TypeId} {x y : Operand} {d : D} (ho : o.op = .binOp op t x y u) (hf : FS c g st.L st.τ st.B w)
    {X Y : Value} (hx : a.eval x = X) (hy : a.eval y = Y) (hg : (eqGuard op t x y X Y).run c.P w = .ok () w) (h : ∃ v, (binOp op t X Y).run c.P w = .ok v w ∧ ∀ bx s w, Rep bx s w d v) : OpOk c g st w a o d st := by
  obtain ⟨v, hv, hr⟩ := h
  refine .pure (v := v) ?_ hf (.clean _ _ (hr _ _ _))
  simp [execOp, ho, hx, hy, hg, hv]

theorem Rep.fptr_val {bx : List Nat} {s : Nat → Nat} {ds : List D} {v : Value} (h : Rep bx s w (.fptr ds) v) : ∃ a, v = .pointer (some a) := by
  cases h with | fptr _ a => exact ⟨a, rfl⟩

theorem RepL.of_array {ds : List D} {vs : Array Value} (hl : ds.length = vs.size) (h : ∀ i d, ds[i]? = some d → RepF c g nL nT w d (vs.getD i Go.undef)) : RepL c g nL nT w ds vs.toList :=
  ⟨by simpa using hl, fun i d hi => by have := h i d hi; simpa [List.getD_eq_getElem?_getD] using this⟩

theorem op_agg {T : Tab} (hT : TabOk c.P T) {st : St} {a : Act} {o : Oper} {op : BinOp} {t u : TypeId} {x y : Operand} {d : D} (ho : o.op = .binOp op t x y u) (hf : FS c g st.L st.τ st.B w)
    {xs ys : List D} {us vs : Array Value} (hx : a.eval x = .agg us) (hy : a.eval y = .agg vs) {ti : TI} (ht : T t = some ti) (hagg : ti.agg = true)
    (hlx : xs.length = us.size) (hrx : ∀ i d, xs[i]? = some d → RepF c g (dom st.L) st.τ.length w d (us.getD i Go.undef)) (hly : ys.length = vs.size) (hry : ∀ i d, ys[i]? = some d → RepF c g (dom st.L) st.τ.length w d (vs.getD i Go.undef))
    (hd : binV.aggV T op t xs ys = some d) : OpOk c g st w a o d st := by
  unfold binV.aggV at hd
  rw [ht] at hd
  simp only at hd
  cases hb : (ti.cmp && Nat.beq xs.length ti.sz && Nat.beq ys.length ti.sz) with
  | false => simp [hb] at hd
  | true =>
    simp only [hb, cond_true] at hd
    simp only [Bool.and_eq_true] at hb
    cases h : eqT T 6 t xs ys with
    | none => simp [h] at hd
    | some b =>
      simp only [h] at hd
      obtain ⟨_, he⟩ := eqT_at hT 6 t xs ys b ti us.toList vs.toList h ht (RepL.of_array hlx hrx) (RepL.of_array hly hry)
      have he := he 9994
      simp only [valOf, hagg, if_true, Array.toArray_toList] at he
      exact op_bin_run ho hf hx hy (guard_agg us vs (hT.cmp t ti ht hb.1.1)) (run_binOp_eq hd w he (by simp) (by simp) (by simp) (by simp))

theorem op_binOp {T : Tab} (hT : TabOk c.P T) {st : St} {a : Act} {o : Oper} {op : BinOp} {t u : TypeId} {x y : Operand} {d : D} (ho : o.op = .binOp op t x y u) (hf : FS c g st.L st.τ st.B w)
    (he : EnvR c g (dom st.L) st.τ.length w st.ρ a) (hd : binV T op (isConst x || isConst y) t (eval st.ρ x) (eval st.ρ y) = some d) : OpOk c g st w a o d st := by
  have hx := he.eval x
  have hy := he.eval y
  generalize ex : eval st.ρ x = X at hx hd
  generalize ey : eval st.ρ y = Y at hy hd
  unfold binV at hd
  split at hd
  · obtain hx := hx.int_inv
    obtain hy := hy.int_inv
    refine op_bin_run ho hf hx hy (run_eqGuard_other _ _ _ _ _ _ _ trivial) ?_
    split at hd
    · split at hd
      · cases hd
      · rename_i hb; injection hd with hd; subst hd
        exact ⟨_, (run_shift t hb w).1, fun _ _ _ => .int _ _⟩
    · split at hd
      · cases hd
      · rename_i hb; injection hd with hd; subst hd
        exact ⟨_, (run_shift t hb w).2, fun _ _ _ => .int _ _⟩
    · rename_i h1 h2
      split at hd
      · rename_i hk; subst hk
        exact run_binOp_int t (fun e => h1 e) (fun e => h2 e) hd w
      · cases hd
  · obtain ⟨s, hx2, hs⟩ := hx.str_inv
    obtain ⟨s', hy2, hs'⟩ := hy.str_inv
    subst hs; subst hs'
    exact op_bin_run ho hf hx2 hy2 (run_eqGuard_other _ _ _ _ _ _ _ trivial) (run_binOp_str t hd w)
  · have htd : ∀ q, tdOf T t = q → q ≠ .other → ∃ ti, T t = some ti ∧ ti.d = q := by
      intro q hq hne
      unfold tdOf at hq
      cases hT' : T t with
      | none => simp [hT'] at hq; exact absurd hq.symm hne
      | some ti => simp [hT'] at hq; exact ⟨ti, rfl, hq⟩
    split at hd
    · rename_i hq
      obtain ⟨ti, ht, hti⟩ := htd _ hq (by simp)
      have hu : c.P.underlying t = some .bool := desc_of hT ht hti
      split at hd
      · obtain hx := hx.bool_inv
        obtain hy := hy.bool_inv
        exact op_bin_run ho hf hx hy (run_eqGuard_other _ _ _ _ _ _ _ trivial) (run_binOp_eq hd w (eq_bb hu _ _) (by simp) (by simp) (by simp) (by simp))
      · cases hd
    · rename_i hq
      obtain ⟨ti, ht, hti⟩ := htd _ hq (by simp)
      obtain ⟨ms, hu⟩ := desc_of hT ht hti
      split at hd
      · obtain hx := hx.nili_inv
        obtain hy := hy.nili_inv
        cases hl : (isConst x || isConst y) with
        | false => simp [hl] at hd
        | true =>
          simp only [hl, cond_true] at hd
          exact op_bin_run ho hf hx hy (guard_nn hl) (run_binOp_eq hd w (eq_nn hu) (by simp) (by simp) (by simp) (by simp))
      · obtain hx := hx.nili_inv
        obtain ⟨v, hy, _⟩ := hy.iface_inv
        exact op_bin_run ho hf hx hy (run_eqGuard_other _ _ _ _ _ _ _ trivial) (run_binOp_eq hd w (eq_ni hu _ _) (by simp) (by simp) (by simp) (by simp))
      · obtain ⟨v, hx, _⟩ := hx.iface_inv
        obtain hy := hy.nili_inv
        exact op_bin_run ho hf hx hy (run_eqGuard_other _ _ _ _ _ _ _ trivial) (run_binOp_eq hd w (eq_in hu _ _) (by simp) (by simp) (by simp) (by simp))
      · cases hd
    · rename_i hq
      obtain ⟨ti, ht, hti⟩ := htd _ hq (by simp)
      have hu := desc_of hT ht hti
      split at hd
      · obtain hx := hx.nilsl_inv
        obtain hy := hy.nilsl_inv
        exact op_bin_run ho hf hx hy (run_eqGuard_other _ _ _ _ _ _ _ trivial) (run_binOp_eq hd w (eq_sl hu _ _ _) (by simp) (by simp) (by simp) (by simp))
      · obtain ⟨ad, cap, hx2⟩ := hx.real_inv
        obtain hy := hy.nilsl_inv
        exact op_bin_run ho hf hx2 hy (run_eqGuard_other _ _ _ _ _ _ _ trivial) (run_binOp_eq hd w (eq_sl hu _ _ _) (by simp) (by simp) (by simp) (by simp))
      · obtain ⟨_, hx0⟩ | ⟨ad, cap, hx2, _⟩ := hx.vec_inv.vec_shape
        · cases hx0
        obtain hy := hy.nilsl_inv
        exact op_bin_run ho hf hx2 hy (run_eqGuard_other _ _ _ _ _ _ _ trivial) (run_binOp_eq hd w (eq_sl hu _ _ _) (by simp) (by simp) (by simp) (by simp))
      · obtain ⟨cap, hx, _⟩ := hx.lsl_inv
        obtain hy := hy.nilsl_inv
        exact op_bin_run ho hf hx hy (run_eqGuard_other _ _ _ _ _ _ _ trivial) (run_binOp_eq hd w (eq_sl hu _ _ _) (by simp) (by simp) (by simp) (by simp))
      · cases hd
    · rename_i hq
      obtain ⟨ti, ht, hti⟩ := htd _ hq (by simp)
      have hu := desc_of hT ht hti
      split at hd
      · obtain hx := hx.nilp_inv
        obtain hy := hy.nilp_inv
        exact op_bin_run ho hf hx hy (run_eqGuard_other _ _ _ _ _ _ _ trivial) (run_binOp_eq hd w (eq_pn hu _) (by simp) (by simp) (by simp) (by simp))
      · obtain ⟨ad, hx2⟩ := hx.fptr_inv.fptr_val
        obtain hy := hy.nilp_inv
        exact op_bin_run ho hf hx2 hy (run_eqGuard_other _ _ _ _ _ _ _ trivial) (run_binOp_eq hd w (eq_pn hu _) (by simp) (by simp) (by simp) (by simp))
      · obtain ⟨hx, _⟩ := hx.lptr_inv
        obtain hy := hy.nilp_inv
        exact op_bin_run ho hf hx hy (run_eqGuard_other _ _ _ _ _ _ _ trivial) (run_binOp_eq hd w (eq_pn hu _) (by simp) (by simp) (by simp) (by simp))
      · obtain ⟨_, _, hx⟩ := hx.bptr_inv
        obtain hy := hy.nilp_inv
        exact op_bin_run ho hf hx hy (run_eqGuard_other _ _ _ _ _ _ _ trivial) (run_binOp_eq hd w (eq_pn hu _) (by simp) (by simp) (by simp) (by simp))
      · cases hd
    · rename_i hq
      obtain ⟨ti, ht, hti⟩ := htd _ hq (by simp)
      split at hd
      · obtain ⟨us, hx2, hlx, hrx⟩ := hx.agg_inv
        obtain ⟨vs, hy2, hly, hry⟩ := hy.agg_inv
        exact op_agg hT ho hf hx2 hy2 ht (by simp [TI.agg, hti]) hlx hrx hly hry hd
      · cases hd
    · rename_i hq
      obtain ⟨ti, ht, hti⟩ := htd _ hq (by simp)
      split at hd
      · obtain ⟨us, hx2, hlx, hrx⟩ := hx.agg_inv
        obtain ⟨vs, hy2, hly, hry⟩ := hy.agg_inv
        exact op_agg hT ho hf hx2 hy2 ht (by simp [TI.agg, hti]) hlx hrx hly hry hd
      · cases hd
    · cases hd

end Go.Proofs.YtploddijjofphaaDoor.V
