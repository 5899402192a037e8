/-
New rows, conversions, lengths, the greatest and the least.
-/
import Derived.Test.YtploddijjofphaaDoorUM
import Derived.Laws.MakeOwn
import Derived.Laws.IdiomStrings
namespace Go.Proofs.YtploddijjofphaaDoor.V
set_option linter.unusedSimpArgs false
set_option linter.unusedVariables false
open Go Go.RowKit

variable {c : Cx} {g : Gh} {nL : Nat → Prop} {nT : Nat} {w : World}

theorem FS.drew {L : List (Option (List D))} {τ : List Bool} {B : List (List D)} (h : FS c g L τ B w) : FS c g L τ B w.drew ∧ Gle c g (dom L) τ.length w g (dom L) τ.length w.drew :=
  h.same rfl rfl rfl rfl

theorem op_makeSlice {T : Tab} (hT : TabOk c.P T) {st : St} {a : Act} {o : Oper} {t e : TypeId} {l m : Operand} {n : Nat} {ti ei : TI} (ho : o.op = .makeSlice t l m) (hf : FS c g st.L st.τ st.B w)
    (he : EnvR c g (dom st.L) st.τ.length w st.ρ a) (ht : T t = some ti) (htd : ti.d = .slice e) (hei : T e = some ei) (hl : eval st.ρ l = .int .i64 n) (hm : eval st.ρ m = .int .i64 n) (hroom : n * ei.bytes ≤ 140737488355328) (hsz : ei.sz = 1) (hby : 1 ≤ ei.bytes)
    (hlf : ei.zero.leaf = true) :
    OpOk c g st w a o (.vec 1 (List.replicate n ei.zero) .exact) st ∧
      OpOk c g st w a o (.lsl st.L.length 0 n 1) { st with L := st.L ++ [some (List.replicate n ei.zero)] } := by
  have hund : c.P.underlying t = some (.slice e) := desc_of hT ht htd
  obtain ⟨ie, z, hie, hes, heb, hz, hrz⟩ := hT.info e ei hei
  have hzl := hT.zlen e ei hei
  have hn : n ≤ n * ei.bytes := Nat.le_mul_of_pos_right _ hby
  have e1 := he.eval l
  have e2 := he.eval m
  rw [hl] at e1; rw [hm] at e2
  have e1 := e1.int_inv
  have e2 := e2.int_inv
  have hrun := run_make (P := c.P) w t e ie z hund hie hz .i64 .i64 n n (by omega) (Int.le_refl _) (by
    rw [heb]
    have : ((n * ei.bytes : Nat) : Int) ≤ 140737488355328 := by omega
    rw [Int.natCast_mul] at this
    rw [Int.mul_comm]; omega) (by omega)
  simp only [Int.toNat_natCast, hes, hsz, Nat.mul_one] at hrun
  obtain ⟨hz1, hz2⟩ := zero_row (n := n) (hrz g.bx g.s w) hzl (by omega)
  rw [hsz, Nat.mul_one] at hz1 hz2
  have hcl : cellsL (List.replicate n ei.zero) = List.replicate n ei.zero := cellsL_leaf (fun x hx => by rw [List.eq_of_mem_replicate hx]; exact hlf)
  have hok : OkL 1 (List.replicate n ei.zero) := fun x hx => by rw [List.eq_of_mem_replicate hx, leaf_cells hlf]; exact ⟨rfl, by simp [hlf]⟩
  change _ = (madeCells z.cells n).size at hz1
  change ∀ (j : Nat) (d : D), _ → Rep _ _ _ d ((madeCells z.cells n).getD j Go.undef) at hz2
  have hexec : (execOp a.eval o).run c.P w = .ok (.value (.slice (some ⟨w.heap.size, 0, none⟩) n n)) (w.alloc (.cells (madeCells z.cells n) e)) := by
    simp [execOp, ho, e1, e2, hrun]
  constructor
  · obtain ⟨a1, a2⟩ := hf.alloc_stable (madeCells z.cells n) e n
    refine .value hexec a1 a2 ?_
    have hnew := heap_alloc_new w (.cells (madeCells z.cells n) e)
    have := vec_new (bx := g.bx) (s := (g.withS w.heap.size n).s) (sz := 1) (xs := List.replicate n ei.zero) (cap := n) (p := .exact) (.inr ⟨rfl, by simp⟩) (by simp) hok hnew (by simp [Gh.withS]) (by omega) (fun j d hj => (hz2 j d hj).mono a2.ev)
    rw [List.length_replicate] at this
    exact .clean _ _ this
  · obtain ⟨a1, a2⟩ := hf.alloc_box (madeCells z.cells n) e (0, 0) (List.replicate n ei.zero) (nofr_zero _) (fun j d hj => by
      rw [hcl] at hz1 hz2
      have hlt := lt_of_get hj
      exact ⟨_, getD_some (by omega), .clean _ _ (hz2 j d hj)⟩)
    refine .value hexec a1 a2 ?_
    have : (g.newL st.L.length w.heap.size).loc st.L.length = w.heap.size := by simp [Gh.newL]
    have h3 := RepF.lsl (c := c) (g := g.newL st.L.length w.heap.size) (nL := dom (st.L ++ [some (List.replicate n ei.zero)])) (nT := st.τ.length) (w := w.alloc (.cells (madeCells z.cells n) e)) st.L.length 0 n 1 n (dom_new _ _) (Nat.le_refl _)
    rw [this] at h3; exact h3

/-! ### Lengths -/
theorem lenV_inv {d : D} {n : Nat} {v : Value} (h : lenV d = some n) (hr : RepF c g nL nT w d v) : (∃ s : ByteArray, v = .string s ∧ s.size = n ∧ ∃ l, d = .str l) ∨ ∃ a cap, v = .slice a n cap := by
  cases d <;> simp only [lenV] at h <;> try (cases h; done)
  case str s => injection h with h; obtain ⟨s', rfl, hs⟩ := hr.str_inv; exact .inl ⟨s', rfl, by rw [← h, ← hs]; simp, _, rfl⟩
  case vec sz xs p =>
    injection h with h; subst h
    rcases hr.vec_inv.vec_shape with ⟨rfl, rfl⟩ | ⟨a, cap, rfl, _⟩
    · exact .inr ⟨_, _, rfl⟩
    · exact .inr ⟨_, _, rfl⟩
  case lsl i off len sz => injection h with h; subst h; obtain ⟨cap, rfl, _⟩ := hr.lsl_inv; exact .inr ⟨_, _, rfl⟩

theorem builtin_exec {a : Act} {o : Oper} {cl : Call} {b : Builtin} (ho : o.op = .call cl) (hb : cl.callee = .builtin b) : ∃ consts, (execOp a.eval o) = Go.builtin b cl.argTypes o.type consts (cl.args.map a.eval) :=
  ⟨_, by simp [execOp, ho, resolve, hb, invoke]; rfl⟩

theorem map_one {α β : Type} {f : α → β} {l : List α} {x : β} (h : l.map f = [x]) : ∃ a, l = [a] ∧ f a = x := by
  match l, h with
  | [a], h => simp at h; exact ⟨a, rfl, h⟩

theorem map_cons {α β : Type} {f : α → β} {l : List α} {x : β} {r : List β} (h : l.map f = x :: r) : ∃ a s, l = a :: s ∧ f a = x ∧ s.map f = r := by
  match l, h with
  | a :: s, h => simp at h; exact ⟨a, s, rfl, h.1, h.2⟩

theorem args_one {a : Act} {args : Array Operand} {x : Operand} (h : args.toList = [x]) : args.map a.eval = #[a.eval x] := by
  apply Array.ext'; simp [h]

theorem args_two {a : Act} {args : Array Operand} {x y : Operand} (h : args.toList = [x, y]) : args.map a.eval = #[a.eval x, a.eval y] := by
  apply Array.ext'; simp [h]

theorem get_head {α : Type} {l : Array α} {x : α} {r : List α} (h : l.toList = x :: r) : l[0]? = some x := by
  rw [← Array.getElem?_toList, h]; rfl

theorem get_snd {α : Type} {l : Array α} {x y : α} {r : List α} (h : l.toList = x :: y :: r) : l[1]? = some y := by
  rw [← Array.getElem?_toList, h]; rfl

theorem argsV_spec {T : Tab} {st : St} {a : Act} (he : EnvR c g nL nT w st.ρ a) : ∀ (l : List Operand) (ts : List TypeId), (argsV T st.ρ l ts).length = (l.map a.eval).length ∧
    ∀ (i : Nat) (d : D), (argsV T st.ρ l ts)[i]? = some d → ∃ v, (l.map a.eval)[i]? = some v ∧ RepF c g nL nT w d v
  | [], ts => by cases ts <;> exact ⟨rfl, fun i d hi => by simp [argsV] at hi⟩
  | x :: l, ts => by
    cases ts with
    | nil =>
      obtain ⟨h1, h2⟩ := argsV_spec (T := T) he l []
      refine ⟨by simp [argsV] at h1 ⊢; exact h1, fun i d hi => ?_⟩
      cases i with
      | zero => simp [argsV] at hi; subst hi; exact ⟨_, by simp, he.eval x⟩
      | succ i => simp [argsV] at hi; obtain ⟨v, hv, hr⟩ := h2 i d hi; exact ⟨v, by simpa using hv, hr⟩
    | cons t ts =>
      obtain ⟨h1, h2⟩ := argsV_spec (T := T) he l ts
      refine ⟨by simp [argsV] at h1 ⊢; exact h1, fun i d hi => ?_⟩
      cases i with
      | zero => simp [argsV] at hi; subst hi; exact ⟨_, by simp, he.evalT x⟩
      | succ i => simp [argsV] at hi; obtain ⟨v, hv, hr⟩ := h2 i d hi; exact ⟨v, by simpa using hv, hr⟩

theorem argsV_cons {T : Tab} {st : St} {a : Act} (he : EnvR c g nL nT w st.ρ a) {l : List Operand} {ts : List TypeId} {x : D} {r : List D} (h : argsV T st.ρ l ts = x :: r) : ∃ ax as ts', l = ax :: as ∧ RepF c g nL nT w x (a.eval ax) ∧ argsV T st.ρ as ts' = r := by
  cases l with
  | nil => cases ts <;> simp [argsV] at h
  | cons y l =>
    cases ts with
    | nil => simp [argsV] at h; exact ⟨y, l, [], rfl, by rw [← h.1]; exact he.eval y, h.2⟩
    | cons t ts => simp [argsV] at h; exact ⟨y, l, ts, rfl, by rw [← h.1]; exact he.evalT y, h.2⟩

theorem argsV_nil {T : Tab} {ρ : Env} {l : List Operand} {ts : List TypeId} (h : argsV T ρ l ts = []) : l = [] := by
  cases l with
  | nil => rfl
  | cons y l => cases ts <;> simp [argsV] at h

theorem argsV_one {T : Tab} {st : St} {a : Act} (he : EnvR c g nL nT w st.ρ a) {l : List Operand} {ts : List TypeId} {x : D} (h : argsV T st.ρ l ts = [x]) : ∃ ax, l = [ax] ∧ RepF c g nL nT w x (a.eval ax) := by
  obtain ⟨ax, as, ts', rfl, hr, h2⟩ := argsV_cons he h
  rw [argsV_nil h2]; exact ⟨ax, rfl, hr⟩

theorem argsV_two {T : Tab} {st : St} {a : Act} (he : EnvR c g nL nT w st.ρ a) {l : List Operand} {ts : List TypeId} {x y : D} (h : argsV T st.ρ l ts = [x, y]) : ∃ ax ay, l = [ax, ay] ∧ RepF c g nL nT w x (a.eval ax) ∧ RepF c g nL nT w y (a.eval ay) := by
  obtain ⟨ax, as, ts', rfl, hr, h2⟩ := argsV_cons he h
  obtain ⟨ay, rfl, hr2⟩ := argsV_one he h2
  exact ⟨ax, ay, rfl, hr, hr2⟩

theorem op_len {T : Tab} (hT : TabOk c.P T) {st : St} {a : Act} {o : Oper} {cl : Call} {t : TypeId} {r : List TypeId} {x : D} {ti : TI} {n : Nat} (ho : o.op = .call cl) (hb : cl.callee = .builtin .len)
    (hf : FS c g st.L st.τ st.B w) (he : EnvR c g (dom st.L) st.τ.length w st.ρ a) (hts : cl.argTypes.toList = t :: r) {ts' : List TypeId} (hxs : argsV T st.ρ cl.args.toList ts' = [x]) (ht : T t = some ti)
    (hd : (∃ e, ti.d = .array n e) ∨ (ti.d = .str ∧ ∃ s, x = .str s ∧ s.length = n) ∨ (∃ e, ti.d = .slice e) ∧ (∀ s, x ≠ .str s) ∧ lenV x = some n) : OpOk c g st w a o (.int .i64 n) st := by
  obtain ⟨consts, hex⟩ := builtin_exec (a := a) ho hb
  obtain ⟨ax, hax, hr⟩ := argsV_one he hxs
  refine .pure (v := .int .i64 n) ?_ hf (.clean _ _ (.int _ _))
  rw [hex, args_one hax]
  rcases hd with ⟨e, htd⟩ | ⟨htd, s, rfl, hs⟩ | ⟨⟨e, htd⟩, hns, hlen⟩
  · have hund : c.P.underlying t = some (.array n e) := desc_of hT ht htd
    simp [Go.builtin, Builtin.len_, get_head hts, run_underlying hund, goInt]
  · have hund : c.P.underlying t = some .string := desc_of hT ht htd
    obtain ⟨s', hv, hs'⟩ := hr.str_inv
    have : s'.size = n := by rw [← hs, ← hs']; simp
    simp [Go.builtin, Builtin.len_, get_head hts, run_underlying hund, goInt, hv, this]
  · have hund : c.P.underlying t = some (.slice e) := desc_of hT ht htd
    rcases lenV_inv hlen hr with ⟨_, _, _, l, rfl⟩ | ⟨ad, cap, hv⟩
    · exact absurd rfl (hns l)
    · simp [Go.builtin, Builtin.len_, get_head hts, run_underlying hund, goInt, hv]

theorem maxV_spec {P : Program} {big : Bool} {x y z : D} {u v : Value} (h : maxV big x y = some z) (hx : RepF c g nL nT w x u) (hy : RepF c g nL nT w y v) :
    ∃ r, ((bif big then Builtin.max2 u v else Builtin.min2 u v) : Sem Value).run P w = .ok r w ∧ RepF c g nL nT w z r := by
  unfold maxV at h
  split at h
  · split at h
    · rename_i k a k' b hk
      subst hk
      injection h with h; subst h
      obtain rfl := hx.int_inv
      obtain rfl := hy.int_inv
      cases big
      · exact ⟨_, by simp [Builtin.min2], .clean _ _ (.int _ _)⟩
      · exact ⟨_, by simp [Builtin.max2], .clean _ _ (.int _ _)⟩
    · cases h
  · rename_i a b
    injection h with h; subst h
    obtain ⟨s, rfl, rfl⟩ := hx.str_inv
    obtain ⟨t, rfl, rfl⟩ := hy.str_inv
    cases big
    · refine ⟨.string (if (Op.bytesLess s.data.toList t.data.toList || s.data.toList == t.data.toList) = true then s else t), ?_, ?_⟩
      · simp [Builtin.min2, Op.stringOp, ByteArray.toList_eq, asBool]
      · cases hb : (Op.bytesLess s.data.toList t.data.toList || s.data.toList == t.data.toList) <;> exact .clean _ _ (.str _)
    · refine ⟨.string (if Op.bytesLess s.data.toList t.data.toList = false then s else t), ?_, ?_⟩
      · simp [Builtin.max2, Op.stringOp, ByteArray.toList_eq, asBool]
      · cases hb : Op.bytesLess s.data.toList t.data.toList <;> exact .clean _ _ (.str _)
  · cases h

theorem maxL_spec {P : Program} {big : Bool} : ∀ {ys : List D} {x z : D} {u : Value} {vs : List Value}, maxL big x ys = some z → RepF c g nL nT w x u → ys.length = vs.length → (∀ (i : Nat) (d : D), ys[i]? = some d → ∃ v, vs[i]? = some v ∧ RepF c g nL nT w d v) →
    ∃ r, ((vs.foldlM (bif big then Builtin.max2 else Builtin.min2) u) : Sem Value).run P w = .ok r w ∧ RepF c g nL nT w z r
  | [], x, z, u, vs, h, hx, hl, _ => by
    simp [maxL] at h; subst h
    cases vs with
    | nil => exact ⟨u, by simp, hx⟩
    | cons _ _ => simp at hl
  | y :: ys, x, z, u, vs, h, hx, hl, hr => by
    cases vs with
    | nil => simp at hl
    | cons v vs =>
      simp only [maxL] at h
      split at h
      · rename_i m hm
        obtain ⟨v', hv', hy⟩ := hr 0 y rfl
        simp at hv'; subst hv'
        obtain ⟨r, hrun, hrep⟩ := maxV_spec (P := P) hm hx hy
        obtain ⟨q, h1, h2⟩ := maxL_spec (P := P) h hrep (by simpa using hl) (fun i d hi => by obtain ⟨v, hv, hr⟩ := hr (i + 1) d (by simpa using hi); exact ⟨v, by simpa using hv, hr⟩)
        refine ⟨q, ?_, h2⟩
        cases big <;> simp only [cond_true, cond_false] at hrun h1 ⊢ <;> simp [List.foldlM_cons, hrun, h1]
      · cases h

theorem evalL_spec {st : St} {a : Act} (he : EnvR c g nL nT w st.ρ a) (l : List Operand) : (l.map (eval st.ρ)).length = (l.map a.eval).length ∧ ∀ (i : Nat) (d : D), (l.map (eval st.ρ))[i]? = some d → ∃ v, (l.map a.eval)[i]? = some v ∧ RepF c g nL nT w d v := by
  refine ⟨by simp, fun i d hi => ?_⟩
  simp only [List.getElem?_map, Option.map_eq_some_iff] at hi ⊢
  obtain ⟨x, hx, rfl⟩ := hi
  exact ⟨a.eval x, ⟨x, hx, rfl⟩, he.eval x⟩

theorem op_max {T : Tab} {st : St} {a : Act} {o : Oper} {cl : Call} {big : Bool} {x z : D} {ys : List D} (ho : o.op = .call cl) (hb : cl.callee = .builtin (bif big then .max else .min))
    (hf : FS c g st.L st.τ st.B w) (he : EnvR c g (dom st.L) st.τ.length w st.ρ a) {ts' : List TypeId} (hxs : argsV T st.ρ cl.args.toList ts' = x :: ys) (hm : maxL big x ys = some z) : OpOk c g st w a o z st := by
  obtain ⟨consts, hex⟩ := builtin_exec (a := a) ho hb
  obtain ⟨ax, as, ts2, hax, hr, has⟩ := argsV_cons he hxs
  obtain ⟨h1, h2⟩ := argsV_spec (T := T) he as ts2
  rw [has] at h1 h2
  obtain ⟨r, hrun, hrep⟩ := maxL_spec (P := c.P) hm hr h1 h2
  refine .pure (v := r) ?_ hf hrep
  rw [hex]
  have e : cl.args.map a.eval = (a.eval ax :: as.map a.eval).toArray := by apply Array.ext'; simp [hax]
  rw [e]
  cases big <;> simp only [cond_true, cond_false] at hrun ⊢ <;> simp [Go.builtin, Builtin.max_, Builtin.min_, hrun]

end Go.Proofs.YtploddijjofphaaDoor.V
