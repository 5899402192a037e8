/-
The operation 'call': the rest.
-/
import Derived.Test.YtploddijjofphaaDoorUT
namespace Go.Proofs.YtploddijjofphaaDoor.V
set_option linter.unusedSimpArgs false
set_option linter.unusedVariables false
open Go Go.RowKit

variable {c : Cx} {g : Gh} {nL : Nat → Prop} {nT : Nat} {w : World}

theorem exec_call {P : Program} {a : Act} {o : Oper} {cl : Call} {x : Operand} {f : FuncId} {caps : Array Value} {fn : Func} (ho : o.op = .call cl) (hb : cl.callee = .value x) (hx : a.eval x = .func (.func f) #[] caps) (hf : P.funcs[f]? = some fn)
    (hn : (fn.name == "runtime.NumGoroutine") = false) (hbo : fn.body.isNone = false) (w : World) : (execOp a.eval o).run P w = .ok (.enter f (cl.args.map a.eval ++ caps)) w := by
  have hn' : ¬ fn.name = "runtime.NumGoroutine" := by simpa using hn
  have hbo' : ¬ fn.body = none := by intro h; simp [h] at hbo
  simp [execOp, ho, resolve, hb, hx, Deferred.ofValue, invoke, callFunc, hf, hn', hbo']

theorem repOL_append {R : D → Value → List Nat → Prop} {ds es : List D} {vs us : List Value} {ks ls : List Nat} (h : RepOL R ds vs ks) (h' : RepOL R es us ls) : RepOL R (ds ++ es) (vs ++ us) (ks ++ ls) := by
  induction h with
  | nil => simpa using h'
  | cons d v ks ds vs ls h _ ih =>
    rw [List.append_assoc]
    exact .cons _ _ _ _ _ _ h ih

theorem repOL_clean {bx : List Nat} {s : Nat → Nat} {ds : List D} {vs : List Value} (hl : ds.length = vs.length) (h : ∀ (i : Nat) (d : D), ds[i]? = some d → ∃ v, vs[i]? = some v ∧ Rep bx s w d v) : RepOL (RepC bx s w) ds vs [] :=
  repOL_of ds vs hl (fun i d v h1 h2 => by
    obtain ⟨u, hu, hr⟩ := h i d h1
    rw [h2] at hu; injection hu with hu; subst hu
    exact .one _ _ _ (.clean _ _ hr))

theorem caps_clean {bx : List Nat} {s : Nat → Nat} {ds : List D} {vs : Array Value} (hl : ds.length = vs.size) (h : ∀ (i : Nat) (d : D), ds[i]? = some d → Rep bx s w d (vs.getD i Go.undef)) : RepOL (RepC bx s w) ds vs.toList [] :=
  repOL_clean (by simpa using hl) (fun i d hi => ⟨vs.getD i Go.undef, by
    have := lt_of_get hi
    rw [Array.getElem?_toList]; exact getD_some (by omega), h i d hi⟩)

theorem FS.boxOf {L : List (Option (List D))} {τ : List Bool} {B : List (List D)} (h : FS c g L τ B w) {k : Nat} (hk : k ∈ g.bx) : g.s k = 0 ∧ k < w.heap.size := by
  obtain ⟨b, hb⟩ := List.getElem?_of_mem hk
  obtain ⟨_, _, h0, cs, t, fr, hh, _⟩ := h.boxAt hb
  exact ⟨h0, (Array.getElem?_eq_some_iff.1 hh).1⟩

theorem op_call {C : Callees} (hC : CallOK c C) {st st' : St} {a : Act} {o : Oper} {cl : Call} {x : Operand} {d : D} (ho : o.op = .call cl) (hb : cl.callee = .value x)
    (hf : FS c g st.L st.τ st.B w) (he : EnvR c g (dom st.L) st.τ.length w st.ρ a) {fl : Nat} {T : Tab} {ts' : List TypeId} (hd : callOpV C fl st (eval st.ρ x) (argsV T st.ρ cl.args.toList ts') = some (d, st')) : OpOk c g st w a o d st' := by
  intro K Q hK
  have hrx := he.eval x
  obtain ⟨hlen, hargs⟩ := argsV_spec (T := T) he cl.args.toList ts'
  unfold callOpV at hd
  split at hd
  · rename_i f caps hfx
    rw [hfx] at hrx
    obtain ⟨cvs, hv, hcl, hcr⟩ := hrx.fn_inv
    have hto : cl.args.map a.eval ++ cvs = (cl.args.toList.map a.eval ++ cvs.toList).toArray := by apply Array.ext'; simp
    cases hm2 : Nat.beq fl 2 with
    | true =>
      rw [hm2] at hd
      simp only [cond_true] at hd
      split at hd
      · rename_i es τ1 hes
        split at hd
        · rename_i r B' hcall
          cases hany : (argsV T st.ρ cl.args.toList ts').any D.isLsl with
          | true => rw [hany] at hd; cases hd
          | false =>
            rw [hany] at hd
            simp only [cond_false] at hd
            injection hd with hd; injection hd with e1 e2; subst e1; subst e2
            obtain ⟨⟨fn, h1, h2, h3⟩, hcalls⟩ := hC f (es ++ caps) st.B r B' hcall
            have hex := exec_call (P := c.P) (a := a) ho hb hv h1 h2 h3 w
            unfold Oper.wp
            rw [hex, Oper.upon_enter, hto]
            obtain ⟨ks, m1, m2, m3, m4, m5⟩ := moveL_spec hf (fun _ h => h) hes hany hlen hargs
            have hnb : ∀ k, k ∈ ks → k ∉ g.bx := fun k hk hm => by
              obtain ⟨i, a1, _, a3, a4⟩ := m5 k hk
              obtain ⟨b, hb2⟩ := List.getElem?_of_mem hm
              have := hf.inj (.t i) (.b b) ⟨a1, a3⟩ (lt_of_get hb2) (a4.trans (bx_getD hb2).symm)
              cases this
            have hkw : ∀ k, k ∈ ks → c.base ≤ k ∧ k < w.heap.size := fun k hk => by
              obtain ⟨i, a1, _, a3, a4⟩ := m5 k hk
              subst a4
              exact ⟨hf.baseT a1 a3, hf.lt (x := .t i) ⟨a1, a3⟩⟩
            have henter := hf.enter g.s ks (fun _ => Nat.le_refl _) hf.zero (fun b k hb2 => (hf.boxOf (List.mem_of_getElem? hb2)).1) hkw
            have hargs2 : RepOL (RepC g.bx g.s w) (es ++ caps) (cl.args.toList.map a.eval ++ cvs.toList) ks := by
              have := repOL_append m1 (caps_clean hcl hcr)
              simpa using this
            refine Calls.mono (hcalls w g _ ks henter hargs2 m2 hnb) (fun e w' he' => ?_)
            obtain ⟨v, rfl, g', ls, hf', hrep, hnd, hls⟩ := he'
            -- the rows that were moved are shut
            have hf1 : FS c g st.L τ1 st.B w ∧ Gle c g (dom st.L) st.τ.length w g (dom st.L) τ1.length w := by
              have hg : Gle c g (dom st.L) st.τ.length w g (dom st.L) τ1.length w := by rw [m3]; exact Gle.refl _ _ _ _ _
              have hlv : ∀ y, live g st.L τ1 y → live g st.L st.τ y := fun y hy => by
                cases y with
                | l i => exact hy
                | b i => exact hy
                | t i => exact ⟨m4 i hy.1, hy.2⟩
              exact ⟨⟨hf.below, hf.entry, hf.baseLe, hf.nB, hf.pre, hf.zero, hf.frame, hf.os, hf.tape, hf.output, hf.newL, fun i hi hw => hf.newT i (m4 i hi) hw, hf.newB, hf.old, hf.mvS,
                fun i ds hi => (hf.boxL i ds hi).mono (fun _ _ hr => hr.mono hg) rfl rfl, hf.boxB, fun i hi hw => hf.tok i (m4 i hi) hw, fun y z hy hz he => hf.inj y z (hlv y hy) (hlv z hz) he⟩, hg⟩
            obtain ⟨hf1, hg1⟩ := hf1
            have hs2 : ∀ k, k < w.heap.size → k ∉ ks → g'.s k = g.s k := fun k hk hm => by
              by_cases hb2 : k ∈ g.bx
              · obtain ⟨b, hb2⟩ := List.getElem?_of_mem hb2
                rw [(hf.boxOf (List.mem_of_getElem? hb2)).1]
                exact (hf'.boxOf (List.mem_of_getElem? (hf'.pre b k hb2))).1
              · exact (hf'.frame k hk hb2 hm).2
            obtain ⟨q1, q2⟩ := hf1.after hf' (fun _ _ => rfl) (fun k hk => by
                obtain ⟨i, a1, _, a3, a4⟩ := m5 k hk
                subst a4
                exact hf.newT i a1 a3) (fun y hy hm => by
                obtain ⟨i, a1, a2, a3, a4⟩ := m5 _ hm
                have hlv : live g st.L st.τ y := by
                  cases y with
                  | l i => exact hy
                  | b i => exact hy
                  | t i => exact ⟨m4 i hy.1, hy.2⟩
                have := hf.inj (.t i) y ⟨a1, a3⟩ hlv a4
                subst this
                exact a2 hy.1) g'.s hs2 (fun _ _ => rfl) hf'.zero hf'.boxB
            have hap : Apart c { g with s := g'.s, bx := g'.bx } st.L τ1 ls := ⟨hnd, fun k hk => by
                rcases (hls k hk).1 with h | h
                · exact .inl (Nat.le_trans hf.entry h)
                · obtain ⟨i, a1, _, a3, a4⟩ := m5 k h
                  subst a4
                  exact hf.newT i a1 a3, fun y hy hm => by
              obtain ⟨hle, hnx⟩ := hls _ hm
              cases y with
              | b i => exact hnx (List.mem_of_getElem? (bx_get (show i < g'.bx.length from hy)))
              | l i =>
                rcases hle with h | h
                · exact absurd (hf.lt (x := .l i) hy) (Nat.not_lt.2 h)
                · obtain ⟨j, a1, a2, a3, a4⟩ := m5 _ h
                  have := hf.inj (.t j) (.l i) ⟨a1, a3⟩ hy a4
                  cases this
              | t i =>
                rcases hle with h | h
                · exact absurd (hf.lt (x := .t i) ⟨m4 i hy.1, hy.2⟩) (Nat.not_lt.2 h)
                · obtain ⟨j, a1, a2, a3, a4⟩ := m5 _ h
                  have := hf.inj (.t j) (.t i) ⟨a1, a3⟩ ⟨m4 i hy.1, hy.2⟩ a4
                  injection this with this
                  subst this
                  exact a2 hy.1⟩
            obtain ⟨g2, p1, p2, p3⟩ := adoptR_spec (g := { g with s := g'.s, bx := g'.bx }) (τ := τ1) hrep q1 hap
            -- as told of the rows ahead
            have hg3 : Gle c g (dom st.L) st.τ.length w g2 (dom st.L) (adoptR τ1 r).2.length w' := hg1.trans (q2.trans p2)
            have : (adoptR τ1 r) = (adoptR τ1 r) := rfl
            exact hK v w' g2 p1 hg3 p3
        · cases hd
      · cases hd
    | false =>
      rw [hm2] at hd
      simp only [cond_false] at hd
      split at hd
      · rename_i es hes
        obtain ⟨hl2, hb2⟩ := borrowL_spec hf hes hlen hargs
        split at hd
        · rename_i r B' hcall
          obtain ⟨⟨fn, h1, h2, h3⟩, hcalls⟩ := hC f (es ++ caps) st.B r B' hcall
          have hex := exec_call (P := c.P) (a := a) ho hb hv h1 h2 h3 w
          unfold Oper.wp
          rw [hex, Oper.upon_enter, hto]
          have hev : Ev g.bx g.s w g.bx (lend g st.L w) w := ⟨fun _ _ h => h, fun k _ => lend_le hf k, fun _ _ _ _ h => h⟩
          have henterL := hf.enter (lend g st.L w) [] (lend_le hf) (lend_zero hf) (lend_box hf) (fun k hk => by cases hk)
          have hargsL : RepOL (RepC g.bx (lend g st.L w) w) (es ++ caps) (cl.args.toList.map a.eval ++ cvs.toList) [] := by
            have := repOL_append (repOL_clean hl2 (fun i e hi => by
              obtain ⟨v, hv, hr, _⟩ := hb2 i e hi
              exact ⟨v, hv, hr⟩)) (caps_clean (s := lend g st.L w) hcl (fun i d hi => (hcr i d hi).mono hev))
            simpa using this
          cases hfl : (Nat.beq fl 1 && r.fresh1) with
          | true =>
            rw [hfl] at hd
            simp only [cond_true] at hd
            split at hd
            · rename_i hcond
              obtain ⟨rfl, hBp⟩ := hcond
              injection hd with hd; injection hd with e1 e2; subst e1; subst e2
              simp only [Bool.and_eq_true] at hfl
              obtain ⟨xs, rfl, hxp, hxl, hx0⟩ : ∃ xs, r = .vec 1 xs .fresh ∧ xs.all D.plain = true ∧ xs.all D.leaf = true ∧ xs ≠ [] := by
                have h := hfl.2
                unfold D.fresh1 at h
                split at h
                · rename_i sz x xs
                  simp only [Bool.and_eq_true] at h
                  obtain rfl := beq_of h.1.1
                  exact ⟨x :: xs, rfl, h.1.2, h.2, by simp⟩
                · cases h
              refine Calls.mono (hcalls w { g with s := lend g st.L w } _ [] henterL hargsL List.nodup_nil (fun k hk => by cases hk)) (fun e w' he' => ?_)
              obtain ⟨v, rfl, g', ls, hf', hrep, _, hls⟩ := he'
              have hbe : g'.bx.length = g.bx.length := by rw [← hf'.nB, ← hf.nB]
              have hbx : g'.bx = g.bx := by
                apply List.ext_getElem?
                intro i
                rcases Nat.lt_or_ge i g.bx.length with hi | hi
                · rw [bx_get hi]; exact hf'.pre i _ (bx_get hi)
                · rw [List.getElem?_eq_none hi, List.getElem?_eq_none (by omega)]
              -- the row becomes a box
              have key : ∀ (k0 cap : Nat) (cs : Array Value) (t : TypeId) (f : Nat → Value), w.heap.size ≤ k0 → xs.length ≤ cap → w'.heap[k0]? = some (.cells cs t (0, 0)) → (∀ (j : Nat) (d : D), xs[j]? = some d → cs[j]? = some (f j) ∧ ∀ bx s, Rep bx s w' d (f j)) → K (a.put o.dst (.slice (some ⟨k0, 0, none⟩) xs.length cap)) w' := fun k0 cap cs t f hk0 hcap hh hc => by
                have hlt0 : k0 < w'.heap.size := (Array.getElem?_eq_some_iff.1 hh).1
                obtain ⟨q1, q2⟩ := hf.after hf' (ks := []) (fun k hk => by cases hk) (fun k hk => by cases hk) (fun y hy hm => by cases hm) (fun k => if k < w.heap.size then g.s k else if k = k0 then 0 else g'.s k) (fun k hk _ => if_pos hk) (fun k hk => by cases hk) (fun k hk => by
                  show (if k < w.heap.size then _ else if k = k0 then 0 else _) = 0
                  rw [if_neg (by have : w.heap.size ≤ w'.heap.size := hf'.entry; omega), if_neg (by omega)]; exact hf'.zero k hk) (fun i ds k hi hk => by
                  obtain ⟨b1, cs, t, fr, b2, b3, b4⟩ := hf'.boxB i ds k hi hk
                  have hk' : k ∈ g.bx := by rw [← hbx]; exact List.mem_of_getElem? hk
                  refine ⟨?_, cs, t, fr, b2, b3, fun j e hj => ?_⟩
                  · show (if k < w.heap.size then _ else _) = 0
                    rw [if_pos (hf.boxOf hk').2]; exact (hf.boxOf hk').1
                  · obtain ⟨u, hu, hr⟩ := b4 j e hj
                    have h1 := List.all_eq_true.1 hBp _ (List.mem_of_getElem? hi)
                    have h2 := List.all_eq_true.1 h1 _ (List.mem_of_getElem? hj)
                    exact ⟨u, hu, plain_rep e h2 hr⟩)
                have hplain : ∀ (j : Nat) (d : D), xs[j]? = some d → d.plain = true := fun j d hj => List.all_eq_true.1 hxp _ (List.mem_of_getElem? hj)
                obtain ⟨p1, p2⟩ := q1.lodge k0 xs (.inl (Nat.le_trans hf.entry hk0)) ⟨by
                    show (if k0 < w.heap.size then _ else if k0 = k0 then 0 else _) = 0
                    rw [if_neg (by omega), if_pos rfl], cs, t, (0, 0), hh, nofr_zero _, fun j d hj => by
                    obtain ⟨c1, c2⟩ := hc j d hj
                    exact ⟨f j, c1, .clean _ _ (c2 _ _)⟩⟩ (fun y hy he => by
                    cases y with
                    | l i => have := hf.lt (x := .l i) hy; have he : g.loc i = k0 := he; have : g.loc i < w.heap.size := this; omega
                    | t i => have := hf.lt (x := .t i) hy; have he : g.tk i = k0 := he; have : g.tk i < w.heap.size := this; omega
                    | b i =>
                      have hi : i < g'.bx.length := hy
                      have he : g'.bx.getD i 0 = k0 := he
                      have h1 := (hf.boxOf (show k0 ∈ g.bx by rw [← hbx, ← he]; exact List.mem_of_getElem? (bx_get hi))).2
                      omega)
                refine hK _ w' _ p1 (q2.trans p2) ?_
                have h4 := RepF.lsl (c := c) (g := ({ g with s := fun k => if k < w.heap.size then g.s k else if k = k0 then 0 else g'.s k, bx := g'.bx } : Gh).newL st.L.length k0) (nL := dom (st.L ++ [some xs])) (nT := st.τ.length) (w := w') st.L.length 0 xs.length 1 cap (dom_new _ _) hcap
                have hloc : (({ g with s := fun k => if k < w.heap.size then g.s k else if k = k0 then 0 else g'.s k, bx := g'.bx } : Gh).newL st.L.length k0).loc st.L.length = k0 := by simp [Gh.newL]
                rw [hloc] at h4
                exact h4
              have hleaf : ∀ x, x ∈ xs → x.leaf = true := List.all_eq_true.1 hxl
              have hcx : cellsL xs = xs := cellsL_leaf hleaf
              cases hrep with
              | one _ _ _ hrep =>
              cases hrep with
              | one _ _ _ hrep =>
              cases hrep with
              | clean _ _ hrep =>
                cases hrep with
                | nilv _ _ hp => rcases hp with h | h <;> cases h
                | vec _ _ _ _ _ _ hp => rcases hp with h | ⟨h, _⟩ | h <;> cases h
              | fresh _ _ k0 cap cs t hrow hs hh hc =>
                have hk0 := (hls k0 (by simp)).1.resolve_right (fun h => by cases h)
                cases hrow with
                | vec _ _ _ _ _ f hp hcap hok hcell hre hst =>
                  rw [hcx] at hcell hre
                  refine key k0 cap cs t f hk0 (by assumption) hh (fun j d hj => ?_)
                  have h1 := hcell j d hj
                  rw [add_plain, Nat.zero_add] at h1
                  exact ⟨by simpa [World.cell?, hh] using h1, fun bx s => plain_rep d (List.all_eq_true.1 hxp _ (List.mem_of_getElem? hj)) (hre j d hj)⟩
              | tight => exact absurd rfl hx0
            · cases hd
          | false =>
            rw [hfl] at hd
            simp only [cond_false] at hd
            cases hany : (argsV T st.ρ cl.args.toList ts').any D.isLsl with
            | true =>
              rw [hany] at hd
              simp only [cond_true] at hd
              split at hd
              · rename_i hcond
                obtain ⟨rfl, hpl, hBp⟩ := hcond
                injection hd with hd; injection hd with e1 e2; subst e1; subst e2
                refine Calls.mono (hcalls w { g with s := lend g st.L w } _ [] henterL hargsL List.nodup_nil (fun k hk => by cases hk)) (fun e w' he' => ?_)
                obtain ⟨v, rfl, g', ls, hf', hrep, _, _⟩ := he'
                have hbe : g'.bx.length = g.bx.length := by rw [← hf'.nB, ← hf.nB]
                have hbx : g'.bx = g.bx := by
                  apply List.ext_getElem?
                  intro i
                  rcases Nat.lt_or_ge i g.bx.length with hi | hi
                  · rw [bx_get hi]; exact hf'.pre i _ (bx_get hi)
                  · rw [List.getElem?_eq_none hi, List.getElem?_eq_none (by omega)]
                obtain ⟨q1, q2⟩ := hf.after hf' (ks := []) (fun k hk => by cases hk) (fun k hk => by cases hk) (fun y hy hm => by cases hm) (fun k => if k < w.heap.size then g.s k else g'.s k) (fun k hk _ => if_pos hk) (fun k hk => by cases hk) (fun k hk => by
                  show (if k < w.heap.size then _ else _) = 0
                  rw [if_neg (by have : w.heap.size ≤ w'.heap.size := hf'.entry; omega)]; exact hf'.zero k hk) (fun i ds k hi hk => by
                  obtain ⟨b1, cs, t, fr, b2, b3, b4⟩ := hf'.boxB i ds k hi hk
                  have hk' : k ∈ g.bx := by rw [← hbx]; exact List.mem_of_getElem? hk
                  refine ⟨?_, cs, t, fr, b2, b3, fun j e hj => ?_⟩
                  · show (if k < w.heap.size then _ else _) = 0
                    rw [if_pos (hf.boxOf hk').2]; exact (hf.boxOf hk').1
                  · obtain ⟨u, hu, hr⟩ := b4 j e hj
                    have h1 := List.all_eq_true.1 hBp _ (List.mem_of_getElem? hi)
                    have h2 := List.all_eq_true.1 h1 _ (List.mem_of_getElem? hj)
                    exact ⟨u, hu, plain_rep e h2 hr⟩)
                exact hK v w' _ q1 q2 (plain_repR hpl hrep _ _ _ _)
              · cases hd
            | false =>
              rw [hany] at hd
              simp only [cond_false] at hd
              injection hd with hd; injection hd with e1 e2; subst e1; subst e2
              have henter := hf.enter g.s [] (fun _ => Nat.le_refl _) hf.zero (fun b k hb2 => (hf.boxOf (List.mem_of_getElem? hb2)).1) (fun k hk => by cases hk)
              have hargs0 : RepOL (RepC g.bx g.s w) (es ++ caps) (cl.args.toList.map a.eval ++ cvs.toList) [] := by
                have := repOL_append (repOL_clean hl2 (fun i e hi => by
                  obtain ⟨v, hv, _, hr⟩ := hb2 i e hi
                  exact ⟨v, hv, hr hany⟩)) (caps_clean hcl hcr)
                simpa using this
              refine Calls.mono (hcalls w g _ [] henter hargs0 List.nodup_nil (fun k hk => by cases hk)) (fun e w' he' => ?_)
              obtain ⟨v, rfl, g', ls, hf', hrep, hnd, hls⟩ := he'
              have hs2 : ∀ k, k < w.heap.size → k ∉ ([] : List Nat) → g'.s k = g.s k := fun k hk _ => by
                by_cases hb2 : k ∈ g.bx
                · obtain ⟨b, hb2⟩ := List.getElem?_of_mem hb2
                  rw [(hf.boxOf (List.mem_of_getElem? hb2)).1]
                  exact (hf'.boxOf (List.mem_of_getElem? (hf'.pre b k hb2))).1
                · exact (hf'.frame k hk hb2 (fun hm => by cases hm)).2
              obtain ⟨q1, q2⟩ := hf.after hf' (fun _ _ => rfl) (fun k hk => by cases hk) (fun y hy hm => by cases hm) g'.s hs2 (fun k hk => by cases hk) hf'.zero hf'.boxB
              have hap : Apart c { g with s := g'.s, bx := g'.bx } st.L st.τ ls := ⟨hnd, fun k hk => by
                rcases (hls k hk).1 with h | h
                · exact .inl (Nat.le_trans hf.entry h)
                · exact absurd h (List.not_mem_nil), fun y hy hm => by
                obtain ⟨hle, hnx⟩ := hls _ hm
                have hle := hle.resolve_right (fun h => by cases h)
                cases y with
                | b i => exact hnx (List.mem_of_getElem? (bx_get (show i < g'.bx.length from hy)))
                | l i => exact absurd (hf.lt (x := .l i) hy) (Nat.not_lt.2 hle)
                | t i => exact absurd (hf.lt (x := .t i) hy) (Nat.not_lt.2 hle)⟩
              obtain ⟨g2, p1, p2, p3⟩ := adoptR_spec (g := { g with s := g'.s, bx := g'.bx }) hrep q1 hap
              exact hK v w' g2 p1 (q2.trans p2) p3
        · cases hd
      · cases hd
  · cases hd

end Go.Proofs.YtploddijjofphaaDoor.V
