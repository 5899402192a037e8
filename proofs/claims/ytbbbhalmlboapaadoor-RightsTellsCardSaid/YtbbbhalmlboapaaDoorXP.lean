import Derived.Test.YtbbbhalmlboapaaDoorXO
/-
Arrays: rows of so many numbers, or of so many yes and no, told by a function of the place.
-/
namespace Go.Proofs.YtbbbhalmlboapaaDoor.V
set_option linter.unusedSimpArgs false
set_option linter.unusedVariables false
open Go Go.RowKit

/-- So many numbers. -/
def nums (k : IntKind) (n : Nat) (m : Nat → Nat) : List D := (List.range n).map fun i => .int k (m i : Nat)
/-- So many yes and no. -/
def bools (n : Nat) (p : Nat → Bool) : List D := (List.range n).map fun i => .bool (p i)
/-- One place's value anew. -/
def updA {α : Type} (m : Nat → α) (a : Nat) (x : α) : Nat → α := fun i => if i = a then x else m i

theorem updA_same {α : Type} (m : Nat → α) (a : Nat) (x : α) : updA m a x a = x := if_pos rfl
theorem updA_ne {α : Type} (m : Nat → α) {a i : Nat} (x : α) (h : i ≠ a) : updA m a x i = m i := if_neg h

theorem range_set {α : Type} (f : Nat → α) (n a : Nat) (x : α) : ((List.range n).map f).set a x = (List.range n).map (fun i => if i = a then x else f i) := by
  apply List.ext_getElem?
  intro i
  rw [List.getElem?_set]
  simp only [List.getElem?_map, List.length_map, List.length_range]
  rcases Nat.lt_or_ge i n with h | h
  · rw [List.getElem?_range h]
    by_cases e : a = i
    · subst e; simp [h]
    · have : ¬ i = a := fun h' => e h'.symm
      simp [e, this]
  · have e : (List.range n)[i]? = none := List.getElem?_eq_none (by simpa using h)
    rw [e]
    by_cases e : a = i
    · subst e; simp; omega
    · simp [e]

theorem setC_one {l : List D} {a : Nat} {x : D} (h : a < l.length) : setC l a [x] = l.set a x := by
  unfold setC
  rw [List.length_singleton, List.append_assoc]
  exact (List.set_eq_take_append_cons_drop.trans (if_pos h)).symm

variable {k : IntKind} {n : Nat} {m : Nat → Nat} {p : Nat → Bool}

theorem nums_len : (nums k n m).length = n := by simp [nums]
theorem bools_len : (bools n p).length = n := by simp [bools]
theorem nums_get {i : Nat} (h : i < n) : (nums k n m)[i]? = some (.int k (m i : Nat)) := by simp [nums, List.getElem?_range h]
theorem bools_get {i : Nat} (h : i < n) : (bools n p)[i]? = some (.bool (p i)) := by simp [bools, List.getElem?_range h]
theorem nums_ext {m' : Nat → Nat} (h : ∀ i, i < n → m i = m' i) : nums k n m = nums k n m' := by
  unfold nums
  apply List.map_congr_left
  intro i hi; rw [h i (List.mem_range.1 hi)]
theorem bools_ext {p' : Nat → Bool} (h : ∀ i, i < n → p i = p' i) : bools n p = bools n p' := by
  unfold bools
  apply List.map_congr_left
  intro i hi; rw [h i (List.mem_range.1 hi)]
theorem nums_set {a x : Nat} (h : a < n) : setC (nums k n m) a [.int k (x : Nat)] = nums k n (updA m a x) := by
  rw [setC_one (by rw [nums_len]; exact h)]
  have := range_set (fun i => D.int k (m i : Nat)) n a (.int k (x : Nat))
  unfold nums
  rw [this]
  apply List.map_congr_left
  intro i _; unfold updA; split <;> rfl
theorem bools_set {a : Nat} {x : Bool} (h : a < n) : setC (bools n p) a [.bool x] = bools n (updA p a x) := by
  rw [setC_one (by rw [bools_len]; exact h)]
  have := range_set (fun i => D.bool (p i)) n a (.bool x)
  unfold bools
  rw [this]
  apply List.map_congr_left
  intro i _; unfold updA; split <;> rfl

theorem mapL_dem {α : Type} {f : α → D} (h : ∀ x, (f x).demote = some (f x)) : ∀ l : List α, demoteL (l.map f) = some (l.map f)
  | [] => rfl
  | x :: l => by simp only [List.map_cons, demoteL, h x, mapL_dem h l]
theorem mapL_out {α : Type} {f : α → D} {τ : List Bool} (h : ∀ x, outD τ (f x) = some (f x, τ)) : ∀ l : List α, outL τ (l.map f) = some (l.map f, τ)
  | [] => rfl
  | x :: l => by simp only [List.map_cons, outL, h x, mapL_out h l]
theorem mapL_ado {α : Type} {f : α → D} {τ : List Bool} (h : ∀ x, adopt τ (f x) = (f x, τ)) : ∀ l : List α, adoptL τ (l.map f) = (l.map f, τ)
  | [] => rfl
  | x :: l => by simp only [List.map_cons, adoptL, h x, mapL_ado h l]
theorem mapL_plain {α : Type} {f : α → D} (h : ∀ x, (f x).plain = true) : ∀ l : List α, D.plain.plainL (l.map f) = true
  | [] => rfl
  | x :: l => by simp only [List.map_cons, D.plain.plainL, h x, mapL_plain h l, Bool.and_self]
theorem mapL_toks {α : Type} {f : α → D} (h : ∀ x, (f x).tok1 = []) : ∀ l : List α, toksL (l.map f) = []
  | [] => rfl
  | x :: l => by simp only [List.map_cons, toksL, h x, mapL_toks h l, List.append_nil]
theorem mapL_boxes {α : Type} {f : α → D} (h : ∀ x, (f x).box1 = []) : ∀ l : List α, boxesL (l.map f) = []
  | [] => rfl
  | x :: l => by simp only [List.map_cons, boxesL, h x, mapL_boxes h l, List.append_nil]
theorem mapL_ren {α : Type} {f : α → D} {bs ts : List Nat} (h : ∀ x, (f x).ren1 bs ts = f x) : ∀ l : List α, renL bs ts (l.map f) = l.map f
  | [] => rfl
  | x :: l => by simp only [List.map_cons, renL, h x, mapL_ren h l]
theorem mapL_under {α : Type} {f : α → D} {j : Nat} (h : ∀ x, (f x).under j = true) : ∀ l : List α, D.under.underL j (l.map f) = true
  | [] => rfl
  | x :: l => by simp only [List.map_cons, D.under.underL, h x, mapL_under h l, Bool.and_self]

theorem nums_dem : demoteL (nums k n m) = some (nums k n m) := mapL_dem (fun _ => rfl) _
theorem bools_dem : demoteL (bools n p) = some (bools n p) := mapL_dem (fun _ => rfl) _
theorem nums_out {τ : List Bool} : outL τ (nums k n m) = some (nums k n m, τ) := mapL_out (fun _ => rfl) _
theorem bools_out {τ : List Bool} : outL τ (bools n p) = some (bools n p, τ) := mapL_out (fun _ => rfl) _
theorem nums_ado {τ : List Bool} : adoptL τ (nums k n m) = (nums k n m, τ) := mapL_ado (fun _ => rfl) _
theorem bools_ado {τ : List Bool} : adoptL τ (bools n p) = (bools n p, τ) := mapL_ado (fun _ => rfl) _
theorem nums_plain : D.plain.plainL (nums k n m) = true := mapL_plain (fun _ => rfl) _
theorem bools_plain : D.plain.plainL (bools n p) = true := mapL_plain (fun _ => rfl) _
theorem nums_toks : toksL (nums k n m) = [] := mapL_toks (fun _ => rfl) _
theorem bools_toks : toksL (bools n p) = [] := mapL_toks (fun _ => rfl) _
theorem nums_boxes : boxesL (nums k n m) = [] := mapL_boxes (fun _ => rfl) _
theorem bools_boxes : boxesL (bools n p) = [] := mapL_boxes (fun _ => rfl) _
theorem nums_ren {bs ts : List Nat} : renL bs ts (nums k n m) = nums k n m := mapL_ren (fun _ => rfl) _
theorem bools_ren {bs ts : List Nat} : renL bs ts (bools n p) = bools n p := mapL_ren (fun _ => rfl) _
theorem nums_under {j : Nat} : D.under.underL j (nums k n m) = true := mapL_under (fun _ => rfl) _
theorem bools_under {j : Nat} : D.under.underL j (bools n p) = true := mapL_under (fun _ => rfl) _
theorem nums_glob : (nums k n m).all D.global = true := by simp [nums, D.global]
theorem bools_glob : (bools n p).all D.global = true := by simp [bools, D.global]
theorem nums_leaf : (nums k n m).all D.leaf = true := by simp [nums, D.leaf]
theorem bools_leaf : (bools n p).all D.leaf = true := by simp [bools, D.leaf]
theorem nums_pln : (nums k n m).all D.plain = true := by simp [nums, D.plain]
theorem bools_pln : (bools n p).all D.plain = true := by simp [bools, D.plain]
theorem nums_close {st : St} : (nums k n m).map st.close1 = nums k n m := by
  unfold nums; rw [List.map_map]; rfl
theorem bools_close {st : St} : (bools n p).map st.close1 = bools n p := by
  unfold bools; rw [List.map_map]; rfl
theorem nums_take : (nums k n m).take n = nums k n m := List.take_of_length_le (by rw [nums_len]; exact Nat.le_refl _)
theorem bools_take : (bools n p).take n = bools n p := List.take_of_length_le (by rw [bools_len]; exact Nat.le_refl _)
theorem nums_all {k' : IntKind} {m' : Nat → Nat} : setC (nums k n m) 0 (nums k' n m') = nums k' n m' := by
  unfold setC
  rw [List.take_zero, List.nil_append, Nat.zero_add, nums_len, List.drop_of_length_le (by rw [nums_len]; exact Nat.le_refl _), List.append_nil]
theorem bools_all {p' : Nat → Bool} : setC (bools n p) 0 (bools n p') = bools n p' := by
  unfold setC
  rw [List.take_zero, List.nil_append, Nat.zero_add, bools_len, List.drop_of_length_le (by rw [bools_len]; exact Nat.le_refl _), List.append_nil]
/-- Those from a place on. -/
theorem bools_row {o s : Nat} (h : o + s ≤ n) : ((bools n p).drop o).take s = bools s (fun i => p (o + i)) := by
  apply List.ext_getElem?
  intro i
  rcases Nat.lt_or_ge i s with hi | hi
  · rw [List.getElem?_take_of_lt hi, List.getElem?_drop, bools_get (by omega), bools_get hi]
  · rw [List.getElem?_eq_none (by rw [List.length_take]; omega), List.getElem?_eq_none (by rw [bools_len]; exact hi)]
theorem nums_row {o s : Nat} (h : o + s ≤ n) : ((nums k n m).drop o).take s = nums k s (fun i => m (o + i)) := by
  apply List.ext_getElem?
  intro i
  rcases Nat.lt_or_ge i s with hi | hi
  · rw [List.getElem?_take_of_lt hi, List.getElem?_drop, nums_get (by omega), nums_get hi]
  · rw [List.getElem?_eq_none (by rw [List.length_take]; omega), List.getElem?_eq_none (by rw [nums_len]; exact hi)]

/-! ### '==' of arrays of numbers -/
theorem nums_cut1 : (nums k (n + 1) m).take 1 = [.int k (m 0 : Nat)] := by
  have := nums_row (k := k) (n := n + 1) (m := m) (o := 0) (s := 1) (by omega)
  rw [List.drop_zero] at this
  rw [this]; rfl
theorem nums_tail : (nums k (n + 1) m).drop 1 = nums k n (fun i => m (i + 1)) := by
  unfold nums
  rw [List.range_succ_eq_map, List.map_cons, List.drop_succ_cons, List.drop_zero, List.map_map]
  rfl

theorem eqItems_nums {T : Tab} {j : Nat} {e : TypeId} {ei : TI} (he : T e = some ei) (hd : ei.d = .int k) : ∀ (n : Nat) (m m' : Nat → Nat),
    eqItems (eqT T (j + 1) e) 1 n (nums k n m) (nums k n m') = some (decide (∀ i, i < n → m i = m' i))
  | 0, m, m' => by simp [eqItems]
  | n + 1, m, m' => by
    rw [eqItems, nums_cut1, nums_cut1, nums_tail, nums_tail, eqItems_nums he hd n]
    simp only [eqT, he, hd, if_true]
    congr 1
    rw [Bool.eq_iff_iff]
    simp only [Bool.and_eq_true, beq_iff_eq, decide_eq_true_eq]
    constructor
    · rintro ⟨h1, h2⟩ i hi
      rcases i with _ | i
      · omega
      · exact h2 i (by omega)
    · intro h
      exact ⟨by rw [h 0 (by omega)], fun i hi => h (i + 1) (by omega)⟩

theorem eqT_nums {T : Tab} {j : Nat} {t e : TypeId} {ti ei : TI} (ht : T t = some ti) (htd : ti.d = .array n e) (he : T e = some ei) (hd : ei.d = .int k) (hs : ei.sz = 1) (m m' : Nat → Nat) :
    eqT T (j + 2) t (nums k n m) (nums k n m') = some (decide (∀ i, i < n → m i = m' i)) := by
  have h : eqT T (j + 2) t (nums k n m) (nums k n m') = eqItems (eqT T (j + 1) e) 1 n (nums k n m) (nums k n m') := by
    unfold eqT
    rw [ht]
    simp only [htd, he, hs]
  rw [h]
  exact eqItems_nums he hd n m m'

/-! ### An array of numbers as an argument -/
theorem rep_nums {bx : List Nat} {s : Nat → Nat} {W : World} {cs : Array Value} (hl : cs.size = n) (h : ∀ i, i < n → cs[i]? = some (.int k (m i : Nat))) : Rep bx s W (.agg (nums k n m)) (.agg cs) :=
  rep_agg (by rw [nums_len, hl]) (fun i d hi => by
    have hin : i < n := by
      have := lt_of_get hi
      rwa [nums_len] at this
    rw [nums_get hin] at hi
    exact ⟨_, h i hin, by rw [← Option.some.inj hi]; exact .int k _⟩)

theorem arg_nums {P : Program} {r : Reach} {b0 : Nat} {t e : TypeId} {v : Value} {W : World} (ha : isAggB P t = true) (hts : P.cellTypes P.depth t = some (List.replicate n e)) (hn : P.cellsOf t = n) (hpos : 0 < n)
    (he : P.underlying e = some (.int k)) (hk : k.signed = false) (hval : Value.okWide P W r b0 t v) : ∃ m : Nat → Nat, (∀ i, i < n → m i < 2 ^ k.bits) ∧ Rep [] (sizeAt W) W (.agg (nums k n m)) v := by
  obtain ⟨cs, rfl, hsz, hc⟩ := arg_agg ha hts hval
  rw [hn] at hsz
  have key : ∀ i, i < n → ∃ z : Nat, z < 2 ^ k.bits ∧ cs[i]? = some (.int k (z : Nat)) := by
    intro i hi
    obtain ⟨u, e1, c1⟩ := hc i _ (Array.getElem?_eq_getElem (by omega))
    have hm : i % (List.replicate n e).length < n := by rw [List.length_replicate]; exact Nat.mod_lt _ hpos
    rw [List.getElem?_replicate, if_pos hm] at e1
    injection e1 with e1; subst e1
    obtain ⟨z, hz, hb⟩ := cell_int he c1
    simp only [IntKind.has, IntKind.min, IntKind.max, hk, Bool.false_eq_true, if_false, Bool.and_eq_true, decide_eq_true_eq] at hb
    have h2 : ((2 ^ k.bits : Nat) : Int) = (2 : Int) ^ k.bits := by simp
    refine ⟨z.toNat, by omega, ?_⟩
    rw [Array.getElem?_eq_getElem (by omega), hz]
    congr 2; omega
  refine ⟨fun i => if h : i < n then (key i h).choose else 0, fun i hi => ?_, rep_nums hsz fun i hi => ?_⟩
  · simp only [hi, dif_pos]; exact (key i hi).choose_spec.1
  · simp only [hi, dif_pos]; exact (key i hi).choose_spec.2

/-! ### Numbers by their bits -/
/-- The number with these bits. -/
def ofB (f : Nat → Bool) : Nat → Nat
  | 0 => 0
  | n + 1 => (bif f 0 then 1 else 0) + 2 * ofB (fun i => f (i + 1)) n

theorem ofB_lt : ∀ (n : Nat) (f : Nat → Bool), ofB f n < 2 ^ n
  | 0, _ => by simp [ofB]
  | n + 1, f => by
    have := ofB_lt n (fun i => f (i + 1))
    rw [ofB, Nat.pow_succ]
    cases f 0 <;> simp <;> omega

theorem ofB_bit : ∀ (n : Nat) (f : Nat → Bool) (i : Nat), (ofB f n).testBit i = (decide (i < n) && f i)
  | 0, f, i => by simp [ofB]
  | n + 1, f, 0 => by
    rw [ofB, Nat.testBit_zero]
    cases f 0 <;> simp <;> omega
  | n + 1, f, i + 1 => by
    have ih := ofB_bit n (fun i => f (i + 1)) i
    rw [ofB, Nat.testBit_add_one]
    have : ((bif f 0 then 1 else 0) + 2 * ofB (fun i => f (i + 1)) n) / 2 = ofB (fun i => f (i + 1)) n := by cases f 0 <;> simp <;> omega
    rw [this, ih]
    simp

theorem bit_big {x n i : Nat} (hx : x < 2 ^ n) (h : n ≤ i) : x.testBit i = false := Nat.testBit_lt_two_pow (Nat.lt_of_lt_of_le hx (Nat.pow_le_pow_right (by decide) h))

theorem bits_ext {n x y : Nat} (hx : x < 2 ^ n) (hy : y < 2 ^ n) (h : ∀ i, i < n → x.testBit i = y.testBit i) : x = y := by
  apply Nat.eq_of_testBit_eq
  intro i
  rcases Nat.lt_or_ge i n with hi | hi
  · exact h i hi
  · rw [bit_big hx hi, bit_big hy hi]

theorem ofB_ext {n : Nat} {f g : Nat → Bool} (h : ∀ i, i < n → f i = g i) : ofB f n = ofB g n :=
  bits_ext (ofB_lt n f) (ofB_lt n g) (fun i hi => by rw [ofB_bit, ofB_bit, h i hi])

theorem ofB_of {n x : Nat} (hx : x < 2 ^ n) : ofB x.testBit n = x := bits_ext (ofB_lt n _) hx (fun i hi => by rw [ofB_bit]; simp [hi])

/-- Without these bits. -/
theorem andn_bit {w x y i : Nat} (hx : x < 2 ^ w) (hy : y < 2 ^ w) : (x &&& (2 ^ w - 1 - y)).testBit i = (x.testBit i && !y.testBit i) := by
  rw [Nat.testBit_and, show 2 ^ w - 1 - y = 2 ^ w - (y + 1) by omega, Nat.testBit_two_pow_sub_succ hy]
  rcases Nat.lt_or_ge i w with hi | hi
  · simp [hi]
  · rw [bit_big hx hi]; rfl

theorem pow_bit {b i : Nat} : (2 ^ b).testBit i = decide (b = i) := Nat.testBit_two_pow

/-- How many there are below n. -/
def cntB (p : Nat → Bool) : Nat → Nat
  | 0 => 0
  | n + 1 => cntB p n + (p n).toNat

theorem cntB_le : ∀ (n : Nat) (p : Nat → Bool), cntB p n ≤ n
  | 0, _ => Nat.le_refl _
  | n + 1, p => by
    have := cntB_le n p
    rw [cntB]; cases p n <;> simp <;> omega

theorem cntB_mono {p q : Nat → Bool} : ∀ (n : Nat), (∀ i, i < n → p i = true → q i = true) → cntB p n ≤ cntB q n
  | 0, _ => Nat.le_refl _
  | n + 1, h => by
    have := cntB_mono n (fun i hi => h i (by omega))
    have h2 := h n (by omega)
    rw [cntB, cntB]
    cases hp : p n
    · simp; omega
    · rw [h2 hp]; simp; omega

theorem cntB_lt {p q : Nat → Bool} {y : Nat} : ∀ (n : Nat), (∀ i, i < n → p i = true → q i = true) → y < n → p y = false → q y = true → cntB p n < cntB q n
  | 0, _, h, _, _ => by omega
  | n + 1, h, hy, h1, h2 => by
    have hm := cntB_mono n (fun i hi => h i (by omega))
    rw [cntB, cntB]
    by_cases e : y = n
    · subst e; rw [h1, h2]; simp; omega
    · have := cntB_lt n (fun i hi => h i (by omega)) (by omega) h1 h2
      have h3 := h n (by omega)
      cases hp : p n
      · simp; omega
      · rw [h3 hp]; simp; omega

theorem cntB_ext {p q : Nat → Bool} : ∀ (n : Nat), (∀ i, i < n → p i = q i) → cntB p n = cntB q n
  | 0, _ => rfl
  | n + 1, h => by rw [cntB, cntB, cntB_ext n (fun i hi => h i (by omega)), h n (by omega)]

theorem cntB_pos {p : Nat → Bool} {y : Nat} : ∀ (n : Nat), y < n → p y = true → 1 ≤ cntB p n := fun n hy h => by
  have := cntB_lt (p := fun _ => false) (q := p) n (fun i _ hi => by cases hi) hy rfl h
  omega

/-- A region that is looked at as it runs, within a loop's body. -/
theorem dyn_doneP {T : Tab} {an : An} {C : Callees} (F : Option (X × St) → Prop) {ops : List Oper} {acc : List (List Acc)} {k : Kont} {st : St} (h : okAccs ops acc = true) (e : F (goX T an C k .norm st)) : F (goDyn T an C ops [] acc k st) := by
  have := dyn_done (T := T) (an := an) (C := C) id (ops := ops) (acc := acc) (k := k) (st := st) h rfl
  simp only [id] at this
  rw [this]; exact e

/-- A loop within a loop's body. -/
theorem nest {T : Tab} {an : An} {C : Callees} {c c' : Code} {st : St} {r : Option (X × St)} {Q : X → St → Prop} (hr : loopC T an C c st = r) (h : ∃ x st', loopC T an C c' st = some (x, st') ∧ Q x st') (hc : c = c') :
    ∃ x st', r = some (x, st') ∧ Q x st' := by
  obtain ⟨x, st', h, hq⟩ := h
  subst hc; exact ⟨x, st', hr.symm.trans h, hq⟩

/-! ### What simplifies, in one -/
theorem EL : type_of% (And.intro (And.intro (And.intro (And.intro (And.intro (And.intro @e_seq (And.intro @e_region @e_dyn)) (And.intro @e_dynS (And.intro @List.flatten_cons.{0} @List.flatten_nil.{0}))) (And.intro (And.intro @e_block (And.intro @e_cond @e_ret)) (And.intro (And.intro @e_skip @e_exit) (And.intro @e_plain @e_guard)))) (And.intro (And.intro (And.intro @e_nil (And.intro @e_op @e_ifT)) (And.intro @e_ifF (And.intro @e_true @e_false))) (And.intro (And.intro @e_loop (And.intro @e_l @e_top)) (And.intro (And.intro @e_seqN @e_seqE) (And.intro @e_seqR @e_blockN))))) (And.intro (And.intro (And.intro (And.intro @e_blockR (And.intro @e_blockE @begin_f)) (And.intro @begin_t (And.intro @end_f @e_finN))) (And.intro (And.intro @e_finX (And.intro @e_finR @List.map_cons.{0,0})) (And.intro (And.intro @List.map_nil.{0,0} @nbeq) (And.intro @nble @List.length_cons.{0})))) (And.intro (And.intro (And.intro @List.length_nil.{0} (And.intro @List.length_map.{0,0} @List.length_append.{0})) (And.intro @List.length_replicate.{0} (And.intro @List.replicate_zero.{0} @List.replicate_one.{0}))) (And.intro (And.intro (fun {α β : Type} (f : α → β) (i : Nat) (l : List α) => (@List.map_take α β f l i).symm) (And.intro (fun {α β : Type} (f : α → β) (i : Nat) (l : List α) => (@List.map_drop α β f l i).symm) @List.isEmpty_cons.{0})) (And.intro (And.intro @List.isEmpty_nil.{0} @List.drop_zero.{0}) (And.intro @List.take_succ_cons.{0} @List.take_zero.{0})))))) (And.intro (And.intro (And.intro (And.intro (And.intro @List.take_nil.{0} (And.intro @List.drop_succ_cons.{0} @List.drop_nil.{0})) (And.intro @Nat.zero_le (And.intro @Nat.le_refl @Nat.sub_zero))) (And.intro (And.intro @List.getElem?_cons_succ.{0} (And.intro @List.getElem?_cons_zero.{0} @List.getElem?_nil.{0})) (And.intro (And.intro @List.any_cons.{0} @List.any_nil.{0}) (And.intro @List.all_cons.{0} @List.all_nil.{0})))) (And.intro (And.intro (And.intro @List.append_nil.{0} (And.intro @List.nil_append.{0} @List.cons_append.{0})) (And.intro @List.set_cons_zero.{0} (And.intro @List.set_cons_succ.{0} @cond_true.{1}))) (And.intro (And.intro @cond_false.{1} (And.intro @decide_true @decide_false)) (And.intro (And.intro @Bool.true_and @Bool.and_true) (And.intro @Bool.false_and @Bool.and_false))))) (And.intro (And.intro (And.intro (And.intro @Bool.true_or (And.intro @Bool.or_true @Bool.false_or)) (And.intro @Bool.or_false (And.intro @Bool.not_true @Bool.not_false))) (And.intro (And.intro @Bool.and_self (And.intro @Bool.or_self @bT)) (And.intro (And.intro @bF @ieq) (And.intro @ine @decide_eq_true_eq)))) (And.intro (And.intro (And.intro @decide_not (And.intro @Nat.zero_add @Nat.add_zero)) (And.intro (And.intro @Option.getD_some.{0} @Option.getD_none.{0}) (And.intro @Option.isSome_some.{0} @Option.isSome_none.{0}))) (And.intro (And.intro @and_self (And.intro @and_true @true_and)) (And.intro (And.intro @not_true_eq_false @not_false_eq_true) (And.intro @false_imp_iff @beq_self_eq_true.{0}))))))) :=
  (And.intro (And.intro (And.intro (And.intro (And.intro (And.intro @e_seq (And.intro @e_region @e_dyn)) (And.intro @e_dynS (And.intro @List.flatten_cons.{0} @List.flatten_nil.{0}))) (And.intro (And.intro @e_block (And.intro @e_cond @e_ret)) (And.intro (And.intro @e_skip @e_exit) (And.intro @e_plain @e_guard)))) (And.intro (And.intro (And.intro @e_nil (And.intro @e_op @e_ifT)) (And.intro @e_ifF (And.intro @e_true @e_false))) (And.intro (And.intro @e_loop (And.intro @e_l @e_top)) (And.intro (And.intro @e_seqN @e_seqE) (And.intro @e_seqR @e_blockN))))) (And.intro (And.intro (And.intro (And.intro @e_blockR (And.intro @e_blockE @begin_f)) (And.intro @begin_t (And.intro @end_f @e_finN))) (And.intro (And.intro @e_finX (And.intro @e_finR @List.map_cons.{0,0})) (And.intro (And.intro @List.map_nil.{0,0} @nbeq) (And.intro @nble @List.length_cons.{0})))) (And.intro (And.intro (And.intro @List.length_nil.{0} (And.intro @List.length_map.{0,0} @List.length_append.{0})) (And.intro @List.length_replicate.{0} (And.intro @List.replicate_zero.{0} @List.replicate_one.{0}))) (And.intro (And.intro (fun {α β : Type} (f : α → β) (i : Nat) (l : List α) => (@List.map_take α β f l i).symm) (And.intro (fun {α β : Type} (f : α → β) (i : Nat) (l : List α) => (@List.map_drop α β f l i).symm) @List.isEmpty_cons.{0})) (And.intro (And.intro @List.isEmpty_nil.{0} @List.drop_zero.{0}) (And.intro @List.take_succ_cons.{0} @List.take_zero.{0})))))) (And.intro (And.intro (And.intro (And.intro (And.intro @List.take_nil.{0} (And.intro @List.drop_succ_cons.{0} @List.drop_nil.{0})) (And.intro @Nat.zero_le (And.intro @Nat.le_refl @Nat.sub_zero))) (And.intro (And.intro @List.getElem?_cons_succ.{0} (And.intro @List.getElem?_cons_zero.{0} @List.getElem?_nil.{0})) (And.intro (And.intro @List.any_cons.{0} @List.any_nil.{0}) (And.intro @List.all_cons.{0} @List.all_nil.{0})))) (And.intro (And.intro (And.intro @List.append_nil.{0} (And.intro @List.nil_append.{0} @List.cons_append.{0})) (And.intro @List.set_cons_zero.{0} (And.intro @List.set_cons_succ.{0} @cond_true.{1}))) (And.intro (And.intro @cond_false.{1} (And.intro @decide_true @decide_false)) (And.intro (And.intro @Bool.true_and @Bool.and_true) (And.intro @Bool.false_and @Bool.and_false))))) (And.intro (And.intro (And.intro (And.intro @Bool.true_or (And.intro @Bool.or_true @Bool.false_or)) (And.intro @Bool.or_false (And.intro @Bool.not_true @Bool.not_false))) (And.intro (And.intro @Bool.and_self (And.intro @Bool.or_self @bT)) (And.intro (And.intro @bF @ieq) (And.intro @ine @decide_eq_true_eq)))) (And.intro (And.intro (And.intro @decide_not (And.intro @Nat.zero_add @Nat.add_zero)) (And.intro (And.intro @Option.getD_some.{0} @Option.getD_none.{0}) (And.intro @Option.isSome_some.{0} @Option.isSome_none.{0}))) (And.intro (And.intro @and_self (And.intro @and_true @true_and)) (And.intro (And.intro @not_true_eq_false @not_false_eq_true) (And.intro @false_imp_iff @beq_self_eq_true.{0})))))))

theorem AL : type_of% (And.intro (And.intro (And.intro (And.intro (And.intro @nums_len @bools_len) (And.intro @nums_dem @bools_dem)) (And.intro (And.intro @nums_out @bools_out) (And.intro @nums_ado @bools_ado))) (And.intro (And.intro (And.intro @nums_plain @bools_plain) (And.intro @nums_toks @bools_toks)) (And.intro (And.intro @nums_boxes @bools_boxes) (And.intro @nums_ren @bools_ren)))) (And.intro (And.intro (And.intro (And.intro @nums_under @bools_under) (And.intro @nums_glob @bools_glob)) (And.intro (And.intro @nums_leaf @bools_leaf) (And.intro @nums_pln @bools_pln))) (And.intro (And.intro (And.intro @nums_close @bools_close) (And.intro @nums_take @bools_take)) (And.intro (And.intro @nums_all @bools_all) (And.intro @Nat.mul_one (And.intro @Nat.add_one_le_iff @Int.toNat_natCast)))))) :=
  (And.intro (And.intro (And.intro (And.intro (And.intro @nums_len @bools_len) (And.intro @nums_dem @bools_dem)) (And.intro (And.intro @nums_out @bools_out) (And.intro @nums_ado @bools_ado))) (And.intro (And.intro (And.intro @nums_plain @bools_plain) (And.intro @nums_toks @bools_toks)) (And.intro (And.intro @nums_boxes @bools_boxes) (And.intro @nums_ren @bools_ren)))) (And.intro (And.intro (And.intro (And.intro @nums_under @bools_under) (And.intro @nums_glob @bools_glob)) (And.intro (And.intro @nums_leaf @bools_leaf) (And.intro @nums_pln @bools_pln))) (And.intro (And.intro (And.intro @nums_close @bools_close) (And.intro @nums_take @bools_take)) (And.intro (And.intro @nums_all @bools_all) (And.intro @Nat.mul_one (And.intro @Nat.add_one_le_iff @Int.toNat_natCast))))))

end Go.Proofs.YtbbbhalmlboapaaDoor.V
