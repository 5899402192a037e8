/-
copy; all builtins together.
-/
import Derived.Test.YtploddijjofphaaDoorUP
namespace Go.Proofs.YtploddijjofphaaDoor.V
set_option linter.unusedSimpArgs false
set_option linter.unusedVariables false
open Go Go.RowKit

variable {c : Cx} {g : Gh} {nL : Nat → Prop} {nT : Nat} {w : World}

theorem op_copy {T : Tab} (hT : TabOk c.P T) {st : St} {a : Act} {o : Oper} {cl : Call} {t : TypeId} {r : List TypeId} {i off len : Nat} {x : D} {ds ys : List D} (ho : o.op = .call cl) (hb : cl.callee = .builtin .copy)
    (hf : FS c g st.L st.τ st.B w) (he : EnvR c g (dom st.L) st.τ.length w st.ρ a) (hts : cl.argTypes.toList = t :: r) {ts' : List TypeId} (hxs : argsV T st.ρ cl.args.toList ts' = [.lsl i off len 1, x]) (ht : rowOf T t = some (.none, 1))
    (hL : st.L[i]? = some (some ds)) (hys : st.elems 1 x = some ys) (hfit : off + len ≤ ds.length ∧ ys.length ≤ len) (hleaf : ys.all D.leaf = true) :
    OpOk c g st w a o (.int .i64 ys.length) { st with L := st.L.set i (some (setC ds off ys)) } := by
  obtain ⟨consts, hex⟩ := builtin_exec (a := a) ho hb
  obtain ⟨as, ax, hargs, hrs, hrx⟩ := argsV_two he hxs
  obtain ⟨cap, hv, hi, hcap⟩ := hrs.lsl_inv
  obtain ⟨us, hrow⟩ := elems_spec (P := c.P) hf hrx hys
  have hlf : ∀ y, y ∈ ys → y.leaf = true := List.all_eq_true.1 hleaf
  have hcl := cellsL_leaf hlf
  have hus : us.length = ys.length := by have := hrow.size; omega
  obtain ⟨h0, cs, tt, fr, hh, hfr, hc⟩ := hf.boxL i ds hL
  have hsz : ds.length ≤ cs.size := by
    rcases Nat.eq_zero_or_pos ds.length with h | h
    · omega
    · obtain ⟨v, hv, _⟩ := hc (ds.length - 1) _ (List.getElem?_eq_getElem (by omega))
      have := (Array.getElem?_eq_some_iff.1 hv).1; omega
  obtain ⟨w', cs', s1, s2, s3, s4, s5, s6, s7, s8, s9⟩ := run_storeCells_gen c.P (g.loc i) tt fr cs.size hfr us off 0 cs w hh rfl (by omega) hrow.one
  obtain ⟨q1, q2⟩ := hf.set_box hL w' s5 s6 s7 s8 s9 (setC ds off ys) ⟨cs', tt, fr, s2, by rw [s3]; exact hfr, fun j d hj => by
    rw [setC_get ds off ys (by omega) j] at hj
    rw [s4 j]
    by_cases hin : off ≤ j ∧ j < off + ys.length
    · rw [if_pos hin] at hj
      rw [if_pos (by omega)]
      rw [← hcl] at hj
      obtain ⟨u, hu, hr⟩ := hrow.rep _ d hj
      exact ⟨u, by simpa using hu, .clean _ _ hr⟩
    · rw [if_neg hin] at hj
      rw [if_neg (by omega)]
      exact hc j d hj⟩
  refine .value (v := .int .i64 ys.length) (w' := w') ?_ q1 q2 (.clean _ _ (.int _ _))
  obtain ⟨e, hund, hrest⟩ : ∃ e, c.P.underlying t = some (.slice e) ∧ ∃ ie, c.P.info? e = some ie ∧ ie.size = 1 := by
    rcases rowOf_inv hT ht with ⟨n, e, ei, h, _⟩ | ⟨e, ei, _, h1, h2, h3⟩
    · cases h
    · obtain ⟨ie, z, hie, hs, _⟩ := hT.info e ei h2
      exact ⟨e, h1, ie, hie, by rw [hs, h3]⟩
  obtain ⟨ie, hie, hsize⟩ := hrest
  have hmin : Nat.min ys.length len = ys.length := Nat.min_eq_left hfit.2
  rw [hex, args_two hargs, hv]
  have h1 := hrow.len w
  have h2 := hrow.cells w rfl
  simp [Go.builtin, Builtin.copy_, get_head hts, run_underlying hund, sizeOf, typeInfo, hie, hsize, h1, hmin, h2, s1, goInt]

theorem op_builtin {T : Tab} (hT : TabOk c.P T) {st st' : St} {a : Act} {o : Oper} {cl : Call} {b : Builtin} {d : D} (ho : o.op = .call cl) (hb : cl.callee = .builtin b)
    (hf : FS c g st.L st.τ st.B w) (he : EnvR c g (dom st.L) st.τ.length w st.ρ a) {ts' : List TypeId} (hd : builtinV T st b cl.argTypes.toList (argsV T st.ρ cl.args.toList ts') = some (d, st')) : OpOk c g st w a o d st' := by
  unfold builtinV at hd
  split at hd
  · -- len
    rename_i t r x hts hxs
    split at hd
    · rename_i ti ht
      split at hd
      · rename_i n e htd
        injection hd with hd; injection hd with h1 h2; subst h1; subst h2
        exact op_len hT ho hb hf he hts hxs ht (.inl ⟨e, htd⟩)
      · rename_i htd
        split at hd
        · rename_i s
          injection hd with hd; injection hd with h1 h2; subst h1; subst h2
          exact op_len hT ho hb hf he hts hxs ht (.inr (.inl ⟨htd, s, rfl, rfl⟩))
        · cases hd
      · rename_i e htd
        split at hd
        · cases hd
        · rename_i hns
          split at hd
          · rename_i n hn
            injection hd with hd; injection hd with h1 h2; subst h1; subst h2
            exact op_len hT ho hb hf he hts hxs ht (.inr (.inr ⟨⟨e, htd⟩, fun s hs => hns s hs, hn⟩))
          · cases hd
      · cases hd
    · cases hd
  · -- append
    rename_i t u s x hts hxs
    split at hd
    · rename_i ti ui ht hu
      split at hd
      · rename_i e htd hrow
        split at hd
        · rename_i ei hei
          split at hd
          · rename_i ys hys
            cases hz : (Nat.beq ei.sz 0 || Nat.beq ei.bytes 0) with
            | true => rw [hz] at hd; cases hd
            | false =>
              rw [hz] at hd
              simp only [cond_false] at hd
              have hb0 : ei.bytes ≠ 0 := fun h0 => by simp [h0] at hz
              have h0 : ei.sz ≠ 0 := fun h0 => by simp [h0] at hz
              exact op_append hT ho hb hf he hts hxs ht htd hu hrow hei hys h0 hb0 hd
          · cases hd
        · cases hd
      · cases hd
    · cases hd
  · -- max
    rename_i x r hxs
    split at hd
    · rename_i z hz
      injection hd with hd; injection hd with h1 h2; subst h1; subst h2
      exact op_max (big := true) ho hb hf he hxs hz
    · cases hd
  · rename_i x r hxs
    split at hd
    · rename_i z hz
      injection hd with hd; injection hd with h1 h2; subst h1; subst h2
      exact op_max (big := false) ho hb hf he hxs hz
    · cases hd
  · rename_i t r i off len sz x hts hxs
    split at hd
    · rename_i ds ht hL
      cases hz : Nat.beq sz 1 with
      | false => rw [hz] at hd; cases hd
      | true =>
        rw [hz] at hd
        simp only [cond_true] at hd
        have hz := beq_of hz
        subst hz
        split at hd
        · rename_i ys hys
          split at hd
          · rename_i hfit
            cases hl : ys.all D.leaf with
            | false => rw [hl] at hd; cases hd
            | true =>
              rw [hl] at hd
              simp only [cond_true] at hd
              injection hd with hd; injection hd with h1 h2; subst h1; subst h2
              exact op_copy hT ho hb hf he hts hxs ht hL hys hfit hl
          · cases hd
        · cases hd
    · cases hd
  · cases hd

end Go.Proofs.YtploddijjofphaaDoor.V
