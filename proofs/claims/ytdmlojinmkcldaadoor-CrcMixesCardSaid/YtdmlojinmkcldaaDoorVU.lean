/-
The operation 'call': the rest.
-/
import Derived.Test.YtdmlojinmkcldaaDoorVT
namespace Go.Proofs.YtdmlojinmkcldaaDoor.V
set_option linter.unusedSimpArgs false
set_option linter.unusedVariables false
open Go Go.RowKit

variable {c : Cx} {g : Gh} {nL : Nat → Prop} {nT : Nat} {w : World}

theorem exec_call {P : Program} {a : Act} {o : Oper} {cl : Call} {x : Operand} {f : FuncId} {fn : Func} (ho : o.op = .call cl) (hb : cl.callee = .value x) (hx : a.eval x = .func (.func f) #[] #[]) (hf : P.funcs[f]? = some fn)
    (hn : (fn.name == "runtime.NumGoroutine") = false) (hbo : fn.body.isNone = false) (w : World) : (execOp a.eval o).run P w = .ok (.enter f (cl.args.map a.eval)) w := by
  have hn' : ¬ fn.name = "runtime.NumGoroutine" := by simpa using hn
  have hbo' : ¬ fn.body = none := by intro h; simp [h] at hbo
  simp [execOp, ho, resolve, hb, hx, Deferred.ofValue, invoke, callFunc, hf, hn', hbo']

theorem op_call {C : Callees} (hC : CallOK c C) {st st' : St} {a : Act} {o : Oper} {cl : Call} {x : Operand} {d : D} (ho : o.op = .call cl) (hb : cl.callee = .value x)
    (hf : FS c g st.L st.τ st.B w) (he : EnvR c g (dom st.L) st.τ.length w st.ρ a) {fl : Bool} (hd : callOpV C fl st (eval st.ρ x) (cl.args.toList.map (eval st.ρ)) = some (d, st')) : OpOk c g st w a o d st' := by
  intro K Q hK
  have hrx := he.eval x
  obtain ⟨hlen, hargs⟩ := evalL_spec he cl.args.toList
  unfold callOpV at hd
  split at hd
  · rename_i f caps hfx
    rw [hfx] at hrx
    obtain ⟨rfl, hv⟩ := hrx.fn_inv
    split at hd
    · rename_i es hes
      obtain ⟨hl2, hb2⟩ := borrowL_spec hf hes hlen hargs
      split at hd
      · rename_i r B' hcall
        simp only [List.append_nil] at hcall
        obtain ⟨⟨fn, h1, h2, h3⟩, hcalls⟩ := hC f es st.B r B' hcall
        have hex := exec_call (P := c.P) (a := a) ho hb hv h1 h2 h3 w
        unfold Oper.wp
        rw [hex, Oper.upon_enter]
        have hto : cl.args.map a.eval = (cl.args.toList.map a.eval).toArray := by apply Array.ext'; simp
        cases hfl : (fl && r.fresh1) with
        | true =>
          rw [hfl] at hd
          simp only [cond_true] at hd
          split at hd
          · rename_i hcond
            obtain ⟨rfl, hBp⟩ := hcond
            injection hd with hd; injection hd with e1 e2; subst e1; subst e2
            simp only [Bool.and_eq_true] at hfl
            obtain ⟨xs, rfl, hxp, hxl⟩ : ∃ xs, r = .vec 1 xs .fresh ∧ xs.all D.plain = true ∧ xs.all D.leaf = true := by
              have h := hfl.2
              unfold D.fresh1 at h
              split at h
              · rename_i sz xs
                simp only [Bool.and_eq_true] at h
                obtain rfl := beq_of h.1.1
                exact ⟨xs, rfl, h.1.2, h.2⟩
              · cases h
            have henter := hf.enter (lend g st.L w) (lend_le hf) (lend_zero hf) (lend_box hf)
            refine Calls.mono (hcalls w { g with s := lend g st.L w } (cl.args.map a.eval) henter (by rw [hl2]; simp) (fun i e hi => ?_)) (fun e w' he' => ?_)
            · obtain ⟨v, hv, hr, _⟩ := hb2 i e hi
              exact ⟨v, by rw [hto]; simpa using hv, hr⟩
            · obtain ⟨v, rfl, g', ks, hf', hrep, _, hks⟩ := he'
              cases hrep with
              | one _ _ _ hrep =>
              cases hrep with
              | one _ _ _ hrep =>
              cases hrep with
              | clean _ _ hrep => cases hrep with | vec _ _ _ _ _ _ hp => rcases hp with h | ⟨h, _⟩ <;> cases h
              | fresh _ _ k0 cap cs t hrow hs hh hc =>
                have hk0 := hks k0 (by simp)
                have hlt0 : k0 < w'.heap.size := (Array.getElem?_eq_some_iff.1 hh).1
                obtain ⟨q1, q2⟩ := hf.after hf' (fun k => if k < w.heap.size then g.s k else if k = k0 then 0 else g'.s k) (fun k hk => if_pos hk) (fun k hk => by
                  show (if k < w.heap.size then _ else if k = k0 then 0 else _) = 0
                  rw [if_neg (by have := hf'.entry; have : w.heap.size ≤ w'.heap.size := this; omega), if_neg (by omega)]; exact hf'.zero k hk) (fun i ds hi => by
                  obtain ⟨b1, cs, t, fr, b2, b3, b4⟩ := hf'.boxB i ds hi
                  refine ⟨?_, cs, t, fr, b2, b3, fun j e hj => ?_⟩
                  · have hlt := hf.lt (x := .b i) (lt_of_get hi)
                    show (if c.bx i < w.heap.size then _ else _) = 0
                    rw [if_pos (show c.bx i < _ from hlt)]; exact (hf.boxB i ds hi).1
                  · obtain ⟨u, hu, hr⟩ := b4 j e hj
                    have h1 := List.all_eq_true.1 hBp _ (List.mem_of_getElem? hi)
                    have h2 := List.all_eq_true.1 h1 _ (List.mem_of_getElem? hj)
                    exact ⟨u, hu, plain_rep e h2 hr⟩)
                have hleaf : ∀ x, x ∈ xs → x.leaf = true := List.all_eq_true.1 hxl
                have hcx : cellsL xs = xs := cellsL_leaf hleaf
                cases hrow with
                | vec _ _ _ _ _ f hp hcap hok hcell hre hst =>
                  rw [hcx] at hcell hre
                  obtain ⟨p1, p2⟩ := q1.lodge k0 xs (Nat.le_trans hf.entry hk0) ⟨by
                      show (if k0 < w.heap.size then _ else if k0 = k0 then 0 else _) = 0
                      rw [if_neg (by omega), if_pos rfl], cs, t, (0, 0), hh, nofr_zero _, fun j d hj => by
                      have h1 := hcell j d hj
                      rw [add_plain, Nat.zero_add] at h1
                      refine ⟨f j, ?_, .clean _ _ (plain_rep d (List.all_eq_true.1 hxp _ (List.mem_of_getElem? hj)) (hre j d hj))⟩
                      simpa [World.cell?, hh] using h1⟩ (fun y hy he => by
                      have := hf.lt (x := y) hy
                      have he : blk c g y = k0 := he
                      omega)
                  refine hK _ w' _ p1 (q2.trans p2) ?_
                  have hloc : (({ g with s := fun k => if k < w.heap.size then g.s k else if k = k0 then 0 else g'.s k } : Gh).newL st.L.length k0).loc st.L.length = k0 := by simp [Gh.newL]
                  have h4 := RepF.lsl (c := c) (g := ({ g with s := fun k => if k < w.heap.size then g.s k else if k = k0 then 0 else g'.s k } : Gh).newL st.L.length k0) (nL := dom (st.L ++ [some xs])) (nT := st.τ.length) (w := w') st.L.length 0 xs.length 1 cap (dom_new _ _) (by assumption)
                  rw [hloc] at h4
                  exact h4
          · cases hd
        | false =>
        rw [hfl] at hd
        simp only [cond_false] at hd
        cases hany : (cl.args.toList.map (eval st.ρ)).any D.isLsl with
        | true =>
          rw [hany] at hd
          simp only [cond_true] at hd
          split at hd
          · rename_i hcond
            obtain ⟨rfl, hpl, hBp⟩ := hcond
            injection hd with hd; injection hd with e1 e2; subst e1; subst e2
            have henter := hf.enter (lend g st.L w) (lend_le hf) (lend_zero hf) (lend_box hf)
            refine Calls.mono (hcalls w { g with s := lend g st.L w } (cl.args.map a.eval) henter (by rw [hl2]; simp) (fun i e hi => ?_)) (fun e w' he' => ?_)
            · obtain ⟨v, hv, hr, _⟩ := hb2 i e hi
              exact ⟨v, by rw [hto]; simpa using hv, hr⟩
            · obtain ⟨v, rfl, g', ks, hf', hrep, _, _⟩ := he'
              obtain ⟨q1, q2⟩ := hf.after hf' (fun k => if k < w.heap.size then g.s k else g'.s k) (fun k hk => if_pos hk) (fun k hk => by
                show (if k < w.heap.size then _ else _) = 0
                rw [if_neg (by have : w.heap.size ≤ w'.heap.size := hf'.entry; omega)]; exact hf'.zero k hk) (fun i ds hi => by
                have hbx := hf'.boxB i ds hi
                obtain ⟨b1, cs, t, fr, b2, b3, b4⟩ := hbx
                refine ⟨?_, cs, t, fr, b2, b3, fun j e hj => ?_⟩
                · have hlt := hf.lt (x := .b i) (lt_of_get hi)
                  show (if c.bx i < w.heap.size then _ else _) = 0
                  rw [if_pos (show c.bx i < _ from hlt)]; exact (hf.boxB i ds hi).1
                · obtain ⟨u, hu, hr⟩ := b4 j e hj
                  have h1 := List.all_eq_true.1 hBp _ (List.mem_of_getElem? hi)
                  have h2 := List.all_eq_true.1 h1 _ (List.mem_of_getElem? hj)
                  exact ⟨u, hu, plain_rep e h2 hr⟩)
              exact hK v w' _ q1 q2 (plain_repR (c := c) hpl hrep _ _ _ _)
          · cases hd
        | false =>
          rw [hany] at hd
          simp only [cond_false] at hd
          injection hd with hd; injection hd with e1 e2; subst e1; subst e2
          have henter := hf.enter g.s (fun _ => Nat.le_refl _) hf.zero (fun b hb => (hf.boxB b _ (List.getElem?_eq_getElem hb)).1)
          refine Calls.mono (hcalls w g (cl.args.map a.eval) henter (by rw [hl2]; simp) (fun i e hi => ?_)) (fun e w' he' => ?_)
          · obtain ⟨v, hv, _, hr⟩ := hb2 i e hi
            exact ⟨v, by rw [hto]; simpa using hv, hr hany⟩
          · obtain ⟨v, rfl, g', ks, hf', hrep, hnd, hks⟩ := he'
            have hs2 : ∀ k, g'.s k = if k < w.heap.size then g.s k else g'.s k := fun k => by
              split
              · rename_i hk
                by_cases hb : ∃ b, b < c.nB ∧ c.bx b = k
                · obtain ⟨b, hb, rfl⟩ := hb
                  have hbl : b < st.B.length := by rw [hf.nB]; exact hb
                  have hbl' : b < B'.length := by rw [hf'.nB]; exact hb
                  rw [(hf.boxB b _ (List.getElem?_eq_getElem hbl)).1]
                  exact (hf'.boxB b _ (List.getElem?_eq_getElem hbl')).1
                · exact (hf'.frame k hk (fun b hb' he => hb ⟨b, hb', he⟩)).2
              · rfl
            obtain ⟨q1, q2⟩ := hf.after hf' g'.s (fun k hk => by rw [hs2 k, if_pos hk]) hf'.zero hf'.boxB
            have hap : Apart c { g with s := g'.s } st.L st.τ B' ks := ⟨hnd, fun k hk => Nat.le_trans hf.entry (hks k hk), fun y hy hm => by
              have hle := hks _ hm
              have hl : live st.L st.τ st.B y := by
                cases y <;> first | exact hy | (simp only [live, hf'.nB] at hy; simp only [live, hf.nB]; exact hy)
              have := hf.lt hl
              exact absurd this (Nat.not_lt.2 hle)⟩
            obtain ⟨g2, p1, p2, p3⟩ := adoptR_spec (g := { g with s := g'.s }) hrep q1 hap
            exact hK v w' g2 p1 (q2.trans p2) p3
      · cases hd
    · cases hd
  · cases hd

end Go.Proofs.YtdmlojinmkcldaaDoor.V
