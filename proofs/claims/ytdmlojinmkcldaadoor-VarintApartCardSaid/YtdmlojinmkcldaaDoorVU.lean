/-
The operation 'call': the rest.
-/
import Derived.Test.YtdmlojinmkcldaaDoorVT
namespace Go.Proofs.YtdmlojinmkcldaaDoor.V
set_option linter.unusedSimpArgs false
set_option linter.unusedVariables false
open Go Go.RowKit

variable {c : Cx} {g : Gh} {nL : Nat → Prop} {nT : Nat} {w : World}

theorem exec_call {P : Program} {a : Act} {o : Oper} {cl : Call} {x : Operand} {f : FuncId} {fn : Func} (ho : o.op = .call cl) (hb : cl.callee = .value x) (hx : a.eval x = .func (.func f) #[] #[]) (hf : P.funcs[f]? = some fn)
    (hn : (fn.name == "runtime.NumGoroutine") = false) (hbo : fn.body.isNone = false) (w : World) : (execOp a.eval o).run P w = .ok (.enter f (cl.args.map a.eval)) w := by
  have hn' : ¬ fn.name = "runtime.NumGoroutine" := by simpa using hn
  have hbo' : ¬ fn.body = none := by intro h; simp [h] at hbo
  simp [execOp, ho, resolve, hb, hx, Deferred.ofValue, invoke, callFunc, hf, hn', hbo']

theorem op_call {C : Callees} (hC : CallOK c C) {st st' : St} {a : Act} {o : Oper} {cl : Call} {x : Operand} {d : D} (ho : o.op = .call cl) (hb : cl.callee = .value x)
    (hf : FS c g st.L st.τ st.B w) (he : EnvR c g (dom st.L) st.τ.length w st.ρ a) (hd : callOpV C st (eval st.ρ x) (cl.args.toList.map (eval st.ρ)) = some (d, st')) : OpOk c g st w a o d st' := by
  intro K Q hK
  have hrx := he.eval x
  obtain ⟨hlen, hargs⟩ := evalL_spec he cl.args.toList
  unfold callOpV at hd
  split at hd
  · rename_i f caps hfx
    rw [hfx] at hrx
    obtain ⟨rfl, hv⟩ := hrx.fn_inv
    split at hd
    · rename_i es hes
      obtain ⟨hl2, hb2⟩ := borrowL_spec hf hes hlen hargs
      split at hd
      · rename_i r B' hcall
        simp only [List.append_nil] at hcall
        obtain ⟨⟨fn, h1, h2, h3⟩, hcalls⟩ := hC f es st.B r B' hcall
        have hex := exec_call (P := c.P) (a := a) ho hb hv h1 h2 h3 w
        unfold Oper.wp
        rw [hex, Oper.upon_enter]
        have hto : cl.args.map a.eval = (cl.args.toList.map a.eval).toArray := by apply Array.ext'; simp
        cases hany : (cl.args.toList.map (eval st.ρ)).any D.isLsl with
        | true =>
          rw [hany] at hd
          simp only [cond_true] at hd
          split at hd
          · rename_i hcond
            obtain ⟨rfl, hpl, hBp⟩ := hcond
            injection hd with hd; injection hd with e1 e2; subst e1; subst e2
            have henter := hf.enter (lend g st.L w) (lend_le hf) (lend_zero hf) (lend_box hf)
            refine Calls.mono (hcalls w { g with s := lend g st.L w } (cl.args.map a.eval) henter (by rw [hl2]; simp) (fun i e hi => ?_)) (fun e w' he' => ?_)
            · obtain ⟨v, hv, hr, _⟩ := hb2 i e hi
              exact ⟨v, by rw [hto]; simpa using hv, hr⟩
            · obtain ⟨v, rfl, g', ks, hf', hrep, _, _⟩ := he'
              obtain ⟨q1, q2⟩ := hf.after hf' (fun k => if k < w.heap.size then g.s k else g'.s k) (fun _ => rfl) (fun i ds hi => by
                have hbx := hf'.boxB i ds hi
                obtain ⟨b1, cs, t, fr, b2, b3, b4⟩ := hbx
                refine ⟨?_, cs, t, fr, b2, b3, fun j e hj => ?_⟩
                · have hlt := hf.lt (x := .b i) (lt_of_get hi)
                  show (if c.bx i < w.heap.size then _ else _) = 0
                  rw [if_pos (show c.bx i < _ from hlt)]; exact (hf.boxB i ds hi).1
                · obtain ⟨u, hu, hr⟩ := b4 j e hj
                  have h1 := List.all_eq_true.1 hBp _ (List.mem_of_getElem? hi)
                  have h2 := List.all_eq_true.1 h1 _ (List.mem_of_getElem? hj)
                  exact ⟨u, hu, plain_rep e h2 hr⟩)
              exact hK v w' _ q1 q2 (plain_repR (c := c) hpl hrep _ _ _ _)
          · cases hd
        | false =>
          rw [hany] at hd
          simp only [cond_false] at hd
          injection hd with hd; injection hd with e1 e2; subst e1; subst e2
          have henter := hf.enter g.s (fun _ => Nat.le_refl _) hf.zero (fun b hb => (hf.boxB b _ (List.getElem?_eq_getElem hb)).1)
          refine Calls.mono (hcalls w g (cl.args.map a.eval) henter (by rw [hl2]; simp) (fun i e hi => ?_)) (fun e w' he' => ?_)
          · obtain ⟨v, hv, _, hr⟩ := hb2 i e hi
            exact ⟨v, by rw [hto]; simpa using hv, hr hany⟩
          · obtain ⟨v, rfl, g', ks, hf', hrep, hnd, hks⟩ := he'
            have hs2 : ∀ k, g'.s k = if k < w.heap.size then g.s k else g'.s k := fun k => by
              split
              · rename_i hk
                by_cases hb : ∃ b, b < c.nB ∧ c.bx b = k
                · obtain ⟨b, hb, rfl⟩ := hb
                  have hbl : b < st.B.length := by rw [hf.nB]; exact hb
                  have hbl' : b < B'.length := by rw [hf'.nB]; exact hb
                  rw [(hf.boxB b _ (List.getElem?_eq_getElem hbl)).1]
                  exact (hf'.boxB b _ (List.getElem?_eq_getElem hbl')).1
                · exact (hf'.frame k hk (fun b hb' he => hb ⟨b, hb', he⟩)).2
              · rfl
            obtain ⟨q1, q2⟩ := hf.after hf' g'.s hs2 hf'.boxB
            have hap : Apart c { g with s := g'.s } st.L st.τ B' ks := ⟨hnd, fun k hk => Nat.le_trans hf.entry (hks k hk), fun y hy hm => by
              have hle := hks _ hm
              have hl : live st.L st.τ st.B y := by
                cases y <;> first | exact hy | (simp only [live, hf'.nB] at hy; simp only [live, hf.nB]; exact hy)
              have := hf.lt hl
              exact absurd this (Nat.not_lt.2 hle)⟩
            obtain ⟨g2, p1, p2, p3⟩ := adoptR_spec (g := { g with s := g'.s }) hrep q1 hap
            exact hK v w' g2 p1 (q2.trans p2) p3
      · cases hd
    · cases hd
  · cases hd

end Go.Proofs.YtdmlojinmkcldaaDoor.V
