/-
append.
-/
import Derived.Test.YtploddijjofphaaDoorUO
namespace Go.Proofs.YtploddijjofphaaDoor.V
set_option linter.unusedSimpArgs false
set_option linter.unusedVariables false
open Go Go.RowKit

variable {c : Cx} {g : Gh} {nL : Nat → Prop} {nT : Nat} {w : World}

theorem RowAt.src {P : Program} {sz : Nat} {xs : List D} {v : Value} {us : List Value} (h : RowAt c g w P sz xs v us) {tx : TypeId} (hk : (∃ e', P.underlying tx = some (.slice e')) ∨ P.underlying tx = some .string) :
    Src P sz tx v xs.length us w :=
  ⟨hk, h.len, h.cells w rfl, h.cells w.drew rfl, h.size, h.one⟩

theorem run_append_room' {P : Program} (w w' : World) (t tx ty e : TypeId) (i : TypeInfo) (ht : P.underlying t = some (.slice e)) (hi : P.info? e = some i) (base : Option Addr) (sLen sCap : Nat) (x : Value) (n : Nat) (news : List Value) (hs : Src P i.size tx x n news w)
    (hroom : sLen + n ≤ sCap) (hst : match base with | some a => (storeCells (a.add (sLen * i.size)) news).run P w = .ok () w' | none => w' = w) :
    (Builtin.append_ #[t, tx] ty #[.slice base sLen sCap, x]).run P w = .ok (.slice base (sLen + n) sCap) w' := by
  cases base with
  | none => subst hst; rcases hs.kind with ⟨e', hk⟩ | hk <;> simp [Builtin.append_, run_underlying ht, run_underlying hk, sizeOf, typeInfo, hi, hs.len, hroom, hs.cells]
  | some a => rcases hs.kind with ⟨e', hk⟩ | hk <;> simp [Builtin.append_, run_underlying ht, run_underlying hk, sizeOf, typeInfo, hi, hs.len, hroom, hs.cells, hst]

/-- A new row behind an append: the elements, then noughts. -/
theorem grown_row {L : List (Option (List D))} {τ : List Bool} {B : List (List D)} (hf : FS c g L τ B w) {sz len cap : Nat} {xs : List D} (hok : OkL sz xs) (hlen : xs.length = len) (hcap : len ≤ cap) {us : List Value} (hus : us.length = len * sz)
    (hrep : ∀ (j : Nat) (d : D), (cellsL xs)[j]? = some d → ∃ u, us[j]? = some u ∧ Rep g.bx g.s w d u) {zs : Array Value} (hzs : zs.size = (cap - len) * sz) (e : TypeId) :
    ∃ g', FS c g' L (τ ++ [true]) B (w.drew.alloc (.cells (us.toArray ++ zs) e)) ∧ Gle c g (dom L) τ.length w g' (dom L) (τ ++ [true]).length (w.drew.alloc (.cells (us.toArray ++ zs) e)) ∧
      RepF c g' (dom L) (τ ++ [true]).length (w.drew.alloc (.cells (us.toArray ++ zs) e)) (.vec sz xs (.own τ.length)) (.slice (some ⟨w.heap.size, 0, none⟩) len cap) := by
  obtain ⟨f1, f2⟩ := hf.drew
  obtain ⟨a1, a2⟩ := f1.alloc_tok (us.toArray ++ zs) e (len * sz)
  refine ⟨_, a1, f2.trans a2, ?_⟩
  have hnew := heap_alloc_new w.drew (.cells (us.toArray ++ zs) e)
  have hcl := cellsL_length hok.len
  have hsize : (us.toArray ++ zs).size = cap * sz := by
    simp only [Array.size_append, List.size_toArray, hus, hzs]
    rw [← Nat.add_mul]; congr 1; omega
  have hdh : w.drew.heap.size = w.heap.size := rfl
  have hv := vec_new (bx := g.bx) (s := ((g.withS w.drew.heap.size (len * sz)).newT τ.length w.drew.heap.size (len * sz) (us.toArray ++ zs).size).s) (sz := sz) (xs := xs) (cap := cap) (p := .none) (.inl rfl) (by omega) hok hnew
    (by simp [Gh.withS, Gh.newT, hlen]) (by rw [hsize, hcl, hlen]; exact Nat.mul_le_mul_right _ hcap) (fun j d hj => by
      obtain ⟨u, hu, hr⟩ := hrep j d hj
      have hlt := lt_of_get hu
      have : (us.toArray ++ zs).getD j Go.undef = u := by
        rw [Array.getD_eq_getD_getElem?, Array.getElem?_append_left (by simpa using hlt)]
        simp [hu]
      rw [this]
      exact hr.mono (f2.trans a2).ev)
  have htk : ((g.withS w.drew.heap.size (len * sz)).newT τ.length w.drew.heap.size (len * sz) (us.toArray ++ zs).size).tk τ.length = w.heap.size := by simp [Gh.newT, hdh]
  have := RepF.own (c := c) (g := (g.withS w.drew.heap.size (len * sz)).newT τ.length w.drew.heap.size (len * sz) (us.toArray ++ zs).size) (nL := dom L) (nT := (τ ++ [true]).length) (w := w.drew.alloc (.cells (us.toArray ++ zs) e)) τ.length sz xs cap (by simp)
    (by rw [htk]; exact hv) (by simp [Gh.newT]) (by simp [Gh.newT, hlen]) (by simp only [Gh.newT, if_true]; rw [hsize])
  rw [htk, hlen] at this
  exact this

theorem roomy_le {n b : Nat} (h : roomy n b = true) : n * b ≤ 140737488355328 := Nat.le_of_ble_eq_true h

theorem fits {need old bytes : Nat} (h : old < need) (hb : bytes ≠ 0) (hr : need * bytes ≤ 140737488355328) :
    ((need : Nat) : Int) ≤ 9223372036854775807 ∧ Builtin.nextslicecap need old * bytes ≤ 281474976710656 := by
  have h1 : need ≤ need * bytes := Nat.le_mul_of_pos_right _ (Nat.pos_of_ne_zero hb)
  have h2 := Room.nextslicecap_le' h
  have h3 : Builtin.nextslicecap need old * bytes ≤ 2 * need * bytes := Nat.mul_le_mul_right _ h2
  rw [Nat.mul_assoc] at h3
  exact ⟨by omega, by omega⟩

theorem argTypes_two {ts : Array TypeId} {t u : TypeId} (h : ts.toList = [t, u]) : ts = #[t, u] := by
  apply Array.ext'; simp [h]

theorem map_two {α β : Type} {f : α → β} {l : List α} {x y : β} (h : l.map f = [x, y]) : ∃ a b, l = [a, b] ∧ f a = x ∧ f b = y := by
  match l, h with
  | [a, b], h => simp at h; exact ⟨a, b, rfl, h.1, h.2⟩

theorem okL_append {sz : Nat} {xs ys : List D} (h1 : OkL sz xs) (h2 : OkL sz ys) : OkL sz (xs ++ ys) := fun x hx => (List.mem_append.1 hx).elim (h1 x) (h2 x)

theorem rep_append {R : D → Value → Prop} {xs ys : List D} {us vs : List Value} (hl : (cellsL xs).length = us.length) (h1 : ∀ (j : Nat) (d : D), (cellsL xs)[j]? = some d → ∃ u, us[j]? = some u ∧ R d u)
    (h2 : ∀ (j : Nat) (d : D), (cellsL ys)[j]? = some d → ∃ u, vs[j]? = some u ∧ R d u) : ∀ (j : Nat) (d : D), (cellsL (xs ++ ys))[j]? = some d → ∃ u, (us ++ vs)[j]? = some u ∧ R d u := fun j d hj => by
  rw [cellsL_append] at hj
  rcases Nat.lt_or_ge j us.length with h | h
  · rw [List.getElem?_append_left (by omega)] at hj ⊢; exact h1 j d hj
  · rw [List.getElem?_append_right (by omega)] at hj ⊢; rw [hl] at hj; exact h2 _ d hj

theorem op_append {T : Tab} (hT : TabOk c.P T) {st st' : St} {a : Act} {o : Oper} {cl : Call} {t u e : TypeId} {s x : D} {ti ui ei : TI} {ys : List D} {d : D} (ho : o.op = .call cl) (hb : cl.callee = .builtin .append)
    (hf : FS c g st.L st.τ st.B w) (he : EnvR c g (dom st.L) st.τ.length w st.ρ a) (hts : cl.argTypes.toList = [t, u]) {ts' : List TypeId} (hxs : argsV T st.ρ cl.args.toList ts' = [s, x]) (ht : T t = some ti) (htd : ti.d = .slice e)
    (hu : T u = some ui) (hui : ui.d.rowish = true) (hei : T e = some ei) (hys : st.elems ei.sz x = some ys) (h0 : ei.sz ≠ 0) (hb0 : ei.bytes ≠ 0) (hd : appendV ei.sz ei.bytes st s ys = some (d, st')) :
    OpOk c g st w a o d st' := by
  obtain ⟨consts, hex⟩ := builtin_exec (a := a) ho hb
  obtain ⟨as, ax, hargs, hrs, hrx⟩ := argsV_two he hxs
  have hund : c.P.underlying t = some (.slice e) := desc_of hT ht htd
  have hk : (∃ e', c.P.underlying u = some (.slice e')) ∨ c.P.underlying u = some .string := by
    have hdu := hT.desc u ui hu
    cases h : ui.d <;> rw [h] at hui hdu <;> simp [TD.rowish] at hui
    · exact .inr hdu
    · exact .inl ⟨_, hdu⟩
  obtain ⟨ie, z, hie, hsize, hbytes, hz, hrz⟩ := hT.info e ei hei
  have hzs : z.cells.size = ei.sz := by rw [← hT.zlen e ei hei]; exact (hrz g.bx g.s w).cells_len.symm
  obtain ⟨us, hrow⟩ := elems_spec (P := c.P) hf hrx hys
  have hsrc : Src c.P ie.size u (a.eval ax) ys.length us w := by rw [hsize]; exact hrow.src hk
  have hexec : ∀ v w', (Builtin.append_ #[t, u] o.type #[a.eval as, a.eval ax]).run c.P w = .ok v w' → (execOp a.eval o).run c.P w = .ok (.value v) w' := fun v w' h => by
    rw [hex, args_two hargs, argTypes_two hts]
    simp [Go.builtin, h]
  have hzc : ∀ n, (Builtin.zeroCells z.cells n).size = n * ei.sz := fun n => by simp [Builtin.zeroCells, hzs]
  unfold appendV at hd
  split at hd
  · rename_i sz' xs p
    cases hsz : (Nat.beq sz' ei.sz && roomy (xs.length + ys.length) ei.bytes) with
    | false => rw [hsz] at hd; cases hd
    | true =>
      rw [hsz] at hd
      simp only [cond_true] at hd
      simp only [Bool.and_eq_true] at hsz
      obtain ⟨hsz, hroom⟩ := hsz
      have hsz := beq_of hsz
      subst hsz
      have hroom := roomy_le hroom
      have holds : ∀ (ad : Addr) (cap : Nat), a.eval as = .slice (some ad) xs.length cap → ∃ os : List Value, os.length = xs.length * ei.sz ∧ (∀ w' : World, w'.heap = w.heap → (Builtin.firstCells ei.sz xs.length (.slice (some ad) xs.length cap)).run c.P w' = .ok os.toArray w') ∧
          OkL ei.sz xs ∧ (∀ (j : Nat) (d : D), (cellsL xs)[j]? = some d → ∃ u, os[j]? = some u ∧ Rep g.bx g.s w d u) := fun ad cap hv => by
        have hel : st.elems ei.sz (.vec ei.sz xs p) = some xs := by simp [St.elems]
        obtain ⟨os, ho⟩ := elems_spec (P := c.P) hf hrs hel
        rw [hv] at ho
        exact ⟨os, ho.size, ho.cells, ho.ok, ho.rep⟩
      have hclen : OkL ei.sz xs → ∀ os : List Value, os.length = xs.length * ei.sz → (cellsL xs).length = os.length := fun hok os h => by rw [cellsL_length hok.len, h]
      -- what is tight
      have tight : ∀ (τ : List Bool), FS c g st.L τ st.B w → Rep g.bx g.s w (.vec ei.sz xs .exact) (a.eval as) →
          ∃ v w' g', (execOp a.eval o).run c.P w = .ok (.value v) w' ∧ FS c g' st.L (τ ++ [true]) st.B w' ∧ Gle c g (dom st.L) τ.length w g' (dom st.L) (τ ++ [true]).length w' ∧ RepF c g' (dom st.L) (τ ++ [true]).length w' (.vec ei.sz (xs ++ ys) (bif ys.isEmpty && !xs.isEmpty then .exact else .own τ.length)) v := fun τ hfτ hexact => by
        cases ys with
        | nil =>
          have hus : us = [] := by have := hrow.size; simpa using this
          subst hus
          obtain ⟨q1, q2⟩ := hfτ.name
          have hrep : RepF c (g.newT τ.length 0 0 0 false) (dom st.L) (τ ++ [true]).length w (.vec ei.sz (xs ++ []) (bif ([] : List D).isEmpty && !xs.isEmpty then .exact else .own τ.length)) (a.eval as) := by
            rw [List.append_nil]
            cases xs with
            | nil => exact .tight _ _ _ (by simp) hexact
            | cons _ _ => exact .clean _ _ hexact
          rcases hexact.vec_shape with ⟨hv, _⟩ | ⟨ad, cap, hv, hcap, _⟩
          · have hr := run_append_room' (P := c.P) w w t u o.type e ie hund hie none 0 0 (a.eval ax) 0 [] hsrc (Nat.le_refl _) rfl
            rw [← hv] at hr
            exact ⟨_, _, _, hexec _ _ hr, q1, q2, hrep⟩
          · have hr := run_append_room' (P := c.P) w w t u o.type e ie hund hie (some ad) xs.length cap (a.eval ax) 0 [] hsrc hcap rfl
            rw [← hv] at hr
            have e1 : Value.slice (some ad) (xs.length + 0) cap = a.eval as := by rw [hv]; rfl
            rw [e1] at hr
            exact ⟨_, _, _, hexec _ _ hr, q1, q2, hrep⟩
        | cons y r =>
          rcases hexact.vec_shape with ⟨hv, rfl⟩ | ⟨ad, cap, hv, hcap, hce⟩
          · obtain ⟨f1, f2⟩ := fits (need := (y :: r).length) (old := 0) (by simp) hb0 (by simpa using hroom)
            have hr := run_append_grow_src (P := c.P) w t u o.type e ie z hund hie hz none 0 0 [] rfl (a.eval ax) _ us hsrc (by simp) (by simpa using f1) (by rw [hbytes]; simpa using f2)
            rw [← hv] at hr
            have hge := grownCap_ge w (0 + (y :: r).length) 0 e
            generalize grownCap w (0 + (y :: r).length) 0 e = cap at hr hge
            obtain ⟨g', q1, q2, q3⟩ := grown_row hfτ hrow.ok (len := 0 + (y :: r).length) (cap := cap) (us := [] ++ us) (by simp) hge (by simpa using hrow.size) (by simpa using hrow.rep) (hzc (cap - (0 + (y :: r).length))) e
            exact ⟨_, _, g', hexec _ _ hr, q1, q2, q3⟩
          · obtain rfl := hce rfl
            obtain ⟨os, o1, o2, o3, o4⟩ := holds ad _ hv
            obtain ⟨f1, f2⟩ := fits (need := xs.length + (y :: r).length) (old := xs.length) (by simp) hb0 hroom
            have hr := run_append_grow_src (P := c.P) w t u o.type e ie z hund hie hz (some ad) xs.length xs.length os (by rw [hsize]; exact o2 w.drew rfl) (a.eval ax) _ us hsrc (by simp) f1 (by rw [hbytes]; exact f2)
            rw [← hv] at hr
            have hge := grownCap_ge w (xs.length + (y :: r).length) xs.length e
            generalize grownCap w (xs.length + (y :: r).length) xs.length e = cap at hr hge
            obtain ⟨g', q1, q2, q3⟩ := grown_row hfτ (okL_append o3 hrow.ok) (len := xs.length + (y :: r).length) (cap := cap) (us := os ++ us) (by simp) hge (by rw [List.length_append, o1, hrow.size, Nat.add_mul]) (rep_append (hclen o3 os o1) o4 hrow.rep) (hzc (cap - (xs.length + (y :: r).length))) e
            exact ⟨_, _, g', hexec _ _ hr, q1, q2, q3⟩
      split at hd
      · injection hd with hd; injection hd with h1 h2; subst h1; subst h2
        obtain ⟨v, w', g', r1, r2, r3, r4⟩ := tight st.τ hf hrs.exact_inv
        exact .value r1 r2 r3 r4
      · rename_i i
        split at hd
        · rename_i hti
          injection hd with hd; injection hd with h1 h2; subst h1; subst h2
          have hlen2 : (st.τ.set i false).length = st.τ.length := by simp
          obtain ⟨k1, k2⟩ := hf.shut i
          obtain ⟨hi, hclean, ⟨rfl, hexact⟩ | ⟨how, cap, hv, hen, hbs⟩⟩ := hrs.own_inv
          · obtain ⟨v, w', g', r1, r2, r3, r4⟩ := tight _ k1 hexact
            rw [hlen2] at r3 r4 k2
            have e0 : (ys.isEmpty && !([] : List D).isEmpty) = false := by cases ys <;> rfl
            rw [e0] at r4
            exact .value r1 r2 (k2.trans r3) r4
          · obtain ⟨os, o1, o2, o3, o4⟩ := holds _ _ hv
            by_cases hfit : xs.length + ys.length ≤ cap
            · -- there is room
              obtain ⟨ts, cs, tt, hh, hcs⟩ := hf.tok i hti how
              have hmul : (xs.length + ys.length) * ei.sz ≤ cap * ei.sz := Nat.mul_le_mul_right _ hfit
              rw [Nat.add_mul] at hmul
              obtain ⟨w', cs', s1, s2, s3, s4, s5, s6, s7, s8, s9⟩ := run_storeCells_gen c.P (g.tk i) tt (0, 0) cs.size (nofr_zero _) us (0 + xs.length * ei.sz) 0 cs w hh rfl (by rw [hrow.size, hcs, ← hbs]; omega) hrow.one
              have hr := run_append_room' (P := c.P) w w' t u o.type e ie hund hie (some ⟨g.tk i, 0, none⟩) xs.length cap (a.eval ax) ys.length us hsrc hfit (by rw [hsize]; simp only [add_plain]; exact s1)
              rw [← hv] at hr
              obtain ⟨q1, q2⟩ := hf.grow hti how w' s5 s6 s7 s8 s9 ((xs.length + ys.length) * ei.sz) (by rw [← hen]; exact Nat.mul_le_mul_right _ (by omega)) ⟨cs, cs', tt, tt, hh, s2, by rw [s3, hcs], fun o v ho hv => by
                rw [s4 o, if_neg (by omega)]; exact hv⟩
              refine .value (hexec _ _ hr) q1 q2 ?_
              have hok := okL_append o3 hrow.ok
              have hcl := cellsL_length hok.len
              have hcx := cellsL_length o3.len
              have hold : ∀ (j : Nat) (d : D), (cellsL xs)[j]? = some d → ∃ v, cs[j]? = some v ∧ Rep g.bx g.s w d v := fun j d hj => by
                rw [hv] at hclean
                cases hclean with
                | vec _ _ _ _ _ vs _ _ _ hc hr _ =>
                  have h := hc j d hj
                  rw [add_plain] at h
                  simp [World.cell?, hh] at h
                  exact ⟨vs j, h, hr j d hj⟩
              have hv2 := vec_new (bx := g.bx) (s := ((g.withS (g.tk i) ((xs.length + ys.length) * ei.sz)).newT st.τ.length (g.tk i) ((xs.length + ys.length) * ei.sz) (g.bs i)).s) (sz := ei.sz) (xs := xs ++ ys) (cap := cap) (p := .none) (.inl rfl) (by simpa using hfit) hok s2
                (by simp [Gh.withS, Gh.newT]) (by rw [hcl, s3, hcs, ← hbs]; exact Nat.mul_le_mul_right _ (by simpa using hfit)) (fun j d hj => by
                  have : ∃ v, cs'[j]? = some v ∧ Rep g.bx g.s w d v := by
                    rw [cellsL_append] at hj
                    rcases Nat.lt_or_ge j (cellsL xs).length with h | h
                    · rw [List.getElem?_append_left h] at hj
                      obtain ⟨v, hv, hr⟩ := hold j d hj
                      exact ⟨v, by rw [s4 j, if_neg (by omega)]; exact hv, hr⟩
                    · rw [List.getElem?_append_right h] at hj
                      obtain ⟨v, hv, hr⟩ := hrow.rep _ d hj
                      have hlt := lt_of_get hv
                      refine ⟨v, ?_, hr⟩
                      rw [s4 j, if_pos (by omega), show j - (0 + xs.length * ei.sz + 0) = j - (cellsL xs).length by omega]
                      exact hv
                  obtain ⟨v, hv, hr⟩ := this
                  simp only [Array.getD_eq_getD_getElem?, hv, Option.getD_some]
                  exact hr.mono q2.ev)
              have htk : ((g.withS (g.tk i) ((xs.length + ys.length) * ei.sz)).newT st.τ.length (g.tk i) ((xs.length + ys.length) * ei.sz) (g.bs i)).tk st.τ.length = g.tk i := by simp [Gh.newT]
              have := RepF.own (c := c) (g := (g.withS (g.tk i) ((xs.length + ys.length) * ei.sz)).newT st.τ.length (g.tk i) ((xs.length + ys.length) * ei.sz) (g.bs i)) (nL := dom st.L) (nT := (st.τ.set i false ++ [true]).length) (w := w') st.τ.length ei.sz (xs ++ ys) cap (by simp)
                (by rw [htk]; exact hv2) (by simp [Gh.newT]) (by simp [Gh.newT]) (by simp [Gh.newT, hbs])
              rw [htk, show (xs ++ ys).length = xs.length + ys.length from List.length_append] at this
              exact this
            · -- there is none
              obtain ⟨f1, f2⟩ := fits (need := xs.length + ys.length) (old := cap) (by omega) hb0 hroom
              have hfc : (Builtin.firstCells ie.size xs.length (.slice (some ⟨g.tk i, 0, none⟩) xs.length cap)).run c.P w.drew = .ok os.toArray w.drew := by rw [hsize]; exact o2 w.drew rfl
              have hr := run_append_grow_src (P := c.P) w t u o.type e ie z hund hie hz (some ⟨g.tk i, 0, none⟩) xs.length cap os hfc (a.eval ax) _ us hsrc (by omega) f1 (by rw [hbytes]; exact f2)
              rw [← hv] at hr
              have hge := grownCap_ge w (xs.length + ys.length) cap e
              generalize grownCap w (xs.length + ys.length) cap e = ncap at hr hge
              obtain ⟨g', q1, q2, q3⟩ := grown_row k1 (okL_append o3 hrow.ok) (len := xs.length + ys.length) (cap := ncap) (us := os ++ us) (by simp) hge (by rw [List.length_append, o1, hrow.size, Nat.add_mul]) (rep_append (hclen o3 os o1) o4 hrow.rep) (hzc (ncap - (xs.length + ys.length))) e
              rw [hlen2] at q2 q3 k2
              exact .value (hexec _ _ hr) q1 (k2.trans q2) q3
        · cases hd
      · cases hd
  · cases hd

end Go.Proofs.YtploddijjofphaaDoor.V
