/-
The bridge: from a law that answers true over the interpreter to its row's contract; an argument's reading as the interpreter takes it.
-/
import Derived.Test.YtploddijjofphaaDoorXH
import Derived.ChangeShapes
import Derived.ChangeSlices
import Derived.ChangeMaps5
import Derived.ChangeSame
import Derived.ChangeVars
import Derived.JoinedOf
import Derived.RowKit
import Derived.RowKitTokens
import Derived.LaidLaws
import Derived.LaidHandle
namespace Go.Proofs.YtploddijjofphaaDoor.V
set_option linter.unusedSimpArgs false
set_option linter.unusedVariables false
open Go Go.RowKit Go.ChangeShapes

variable {H : Type} {enc : TypeId × Value → H} {P : Program}

theorem trodAll_carry (hl : laidOutB P = true) {W W' : World} (hb : Below W.heap.size W W') : ∀ {ts : List TypeId} {vs : List Value} {ds : List (DataW H)} {p : List MemPlace},
    DataW.TrodAll enc P W 0 (fun _ => true) true ts vs ds p → (∀ t, t ∈ ts → P.readableRec t = true ∧ t < P.types.size) → (∀ x, x ∈ p → x.block < W.heap.size) →
    DataW.TrodAll enc P W' 0 (fun b => decide (b < W.heap.size)) true ts vs ds p
  | [], vs, ds, p, h, _, _ => by
    obtain ⟨rfl, rfl, rfl⟩ := trodAll_nil h
    exact rfl
  | t :: ts, vs, ds, p, h, hr, hlt => by
    obtain ⟨v, vs', d, ds', q, r, rfl, rfl, rfl, h1, h2⟩ := trodAll_cons h
    obtain ⟨r1, r2⟩ := hr t (by simp)
    exact ⟨q, r, Below.trod hl r1 r2 h1 hb (fun x hx => hlt x (List.mem_append_left _ hx)), trodAll_carry hl hb h2 (fun t ht => hr t (by simp [ht])) (fun x hx => hlt x (List.mem_append_right _ hx)), rfl⟩

theorem contract_of {fn : Func} {f : FuncId} {s : ChangeSpec} {tb : TypeId} {apart fresh handsOn : Bool} {W : World} {args : Array Value} {ds gs : List (DataW H)} {before : List MemPlace} (hv : s.vars = [])
    (hs : s.fn H (ds ++ []) = { results := [.lit (.bool true)], args := ds }) (hrt : fn.resultTypes = #[tb]) (htb : P.underlying tb = some .bool) (hl : laidOutB P = true)
    (hr : (fn.params.toList.all fun t => P.readableRec t && decide (t < P.types.size)) = true) (hW : DataW.Whole enc P fn.params.toList s.vars apart W args.toList ds gs before)
    (hc : Calls P f args W fun e W' => e = .returned (.bool true) ∧ Below W.heap.size W W') :
    Calls P f args W fun e W' => ∃ v, e = .returned v ∧ s.post enc P fn apart fresh handsOn false W args v W' := by
  have hW' := hW
  obtain ⟨p, q, hA, hV, rfl, hfz, hnd⟩ := hW
  rw [hv] at hV
  obtain ⟨rfl, rfl⟩ : gs = [] ∧ q = [] := by
    cases gs with
    | nil => exact ⟨rfl, hV⟩
    | cons g r => exact absurd hV (by intro h; cases h)
  refine hc.mono fun e W' ⟨he, hb⟩ => ?_
  subst he
  refine ⟨_, rfl, ds, [], _, [], p, [], hW', ?_, ?_, ?_, hb.frame _, fun h => by cases h⟩
  · rw [hs, hrt]; exact trodAll_mk1 (shut_bool htb true)
  · rw [hs]
    exact trodAll_carry hl hb hA (fun t ht => by
      have := List.all_eq_true.1 hr t ht
      simp only [Bool.and_eq_true, decide_eq_true_eq] at this
      exact this) (fun x hx => by simpa using hW'.lt x (by simp [hx]))
  · rw [hs, hv]; exact rfl

theorem arg_int {r : Reach} {b0 base : Nat} {spare : Nat → Bool} {held : Bool} {t : TypeId} {k : IntKind} {v : Value} {d : DataW H} {ps : List MemPlace} {W : World} (ht : P.underlying t = some (.int k)) (hval : Value.okWide P W r b0 t v) (hd : DataW.Trod enc P W base spare held t v d ps) :
    ∃ n, k.has n ∧ v = .int k n ∧ Rep [] (sizeAt W) W (.int k n) v := by
  obtain ⟨n, rfl, rfl, rfl, hw⟩ := open_int ht hval hd
  refine ⟨n, ?_, rfl, .int k n⟩
  simp only [Value.okWide, ht, Cell.okWide, Cell.ok] at hval
  exact hval.2

theorem wf_u8 {n : Int} (h : (Lit.int .u8 n).wf = true) : 0 ≤ n ∧ n ≤ 255 := by
  simpa [Lit.wf, IntKind.min, IntKind.max, IntKind.bits, IntKind.signed] using h

theorem reach_le {n : Nat} (h : n ≤ reachBytes) : n ≤ 140737488351232 := h

theorem arg_str {r : Reach} {b0 base : Nat} {spare : Nat → Bool} {held : Bool} {t : TypeId} {v : Value} {d : DataW H} {ps : List MemPlace} {W : World} (ht : P.underlying t = some .string) (hval : Value.okWide P W r b0 t v) (hd : DataW.Trod enc P W base spare held t v d ps) (hw : (d.weights P t).all (· ≤ reachBytes) = true) :
    ∃ l : List UInt8, l.length ≤ 140737488351232 ∧ Rep [] (sizeAt W) W (.str l) v := by
  obtain ⟨s, rfl, rfl, rfl, _⟩ := Go.ChangeMaps.open_string ht hval hd
  refine ⟨s.data.toList, ?_, .str s⟩
  unfold DataW.weights at hw
  simp only [List.all_cons, List.all_nil, Bool.and_true, decide_eq_true_eq] at hw
  exact reach_le (by simpa using hw)

/-- Numbers of one kind, as an argument. -/
theorem arg_ints {r : Reach} {b0 : Nat} {held : Bool} {t e : TypeId} {k : IntKind} {v : Value} {d : DataW H} {ps : List MemPlace} {W : World} (ht : P.underlying t = some (.slice e)) (he : P.underlying e = some (.int k)) (hc : P.cellsOf e = 1) (hb : 1 ≤ P.bytesOf e)
    (hval : Value.okWide P W r b0 t v) (hd : DataW.Trod enc P W 0 (fun _ => true) held t v d ps) (hw : (d.weights P t).all (· ≤ reachBytes) = true) :
    ∃ zs : List Int, zs.length ≤ 140737488351232 ∧ (∀ n, n ∈ zs → (Lit.int k n).wf = true) ∧ Rep [] (sizeAt W) W (.vec 1 (zs.map (.int k)) .none) v := by
  obtain ⟨fuel, hf⟩ := hd
  rcases open_ints ht he hc hf with ⟨h1, _⟩ | ⟨a, len, cap, zs, h1, _, h3, h4, h5, h6, h7, h8⟩
  · obtain ⟨a0, l0, c0, rfl⟩ := Go.WideShapes.okWide_slice ht hval
    simp [Value.cells] at h1
    obtain ⟨rfl, rfl, rfl⟩ := h1
    exact ⟨[], by simp, fun n hn => (by cases hn), .nilv _ _ (.inl rfl)⟩
  · obtain ⟨a0, l0, c0, rfl⟩ := Go.WideShapes.okWide_slice ht hval
    simp [Value.cells] at h1
    obtain ⟨rfl, rfl, rfl⟩ := h1
    have hsp : a.spot = none := by
      simp only [Value.okWide, ht, Cell.okWide, Cell.ok] at hval
      exact hval.2.2.2.1
    obtain ⟨b, off, sp⟩ := a
    simp only at hsp
    subst hsp
    simp only [if_true] at h5
    have hlen : (zs.take l0).length = l0 := by simp; omega
    have hd : d = .slice (lits k (zs.take l0)) (lits k (zs.drop l0)) := congrArg Prod.fst h6
    have hle : l0 ≤ 140737488351232 := by
      subst hd
      unfold DataW.weights at hw
      simp only [ht, List.all_cons, Bool.and_eq_true, decide_eq_true_eq, lits, List.length_map] at hw
      have := hw.1
      rw [hlen] at this
      refine reach_le (Nat.le_trans ?_ this)
      exact Nat.le_trans (Nat.le_add_right _ _) (Nat.le_mul_of_pos_right _ hb)
    refine ⟨zs.take l0, by rw [hlen]; exact hle, fun n hn => h8 n (List.mem_of_mem_take hn), ?_⟩
    have := rep_row (bx := []) (W := W) (b := b) (off := off) (cap := c0) (xs := (zs.take l0).map (.int k)) (fun i => .int k (zs.getD i 0)) (by simp; omega) (fun x hx => by
      obtain ⟨n, _, rfl⟩ := List.mem_map.1 hx
      rfl) (fun i d hi => by
        rw [List.getElem?_map] at hi
        have hil : i < l0 := by
          rcases Nat.lt_or_ge i l0 with h | h
          · exact h
          · rw [List.getElem?_eq_none (by simp; omega)] at hi; cases hi
        rw [List.getElem?_take_of_lt hil] at hi
        have hiz : i < zs.length := by omega
        rw [List.getElem?_eq_getElem hiz] at hi
        simp at hi
        subst hi
        refine ⟨?_, ?_⟩
        · have := h7 i hiz
          rw [add_plain] at this; simpa using this
        · simp [hiz]; exact .int k _)
    rw [List.length_map, hlen] at this
    exact this

/-- Bytes as an argument. -/
theorem arg_bytes {r : Reach} {b0 : Nat} {held : Bool} {t e : TypeId} {v : Value} {d : DataW H} {ps : List MemPlace} {W : World} (ht : P.underlying t = some (.slice e)) (he : P.underlying e = some (.int .u8)) (hc : P.cellsOf e = 1) (hb : 1 ≤ P.bytesOf e)
    (hval : Value.okWide P W r b0 t v) (hd : DataW.Trod enc P W 0 (fun _ => true) held t v d ps) (hw : (d.weights P t).all (· ≤ reachBytes) = true) :
    ∃ l : List UInt8, l.length ≤ 140737488351232 ∧ Rep [] (sizeAt W) W (.vec 1 (l.map byteD) .none) v := by
  obtain ⟨zs, h0, hz, h⟩ := arg_ints ht he hc hb hval hd hw
  refine ⟨zs.map fun z => UInt8.ofNat z.toNat, by simpa using h0, ?_⟩
  have : (zs.map fun z => UInt8.ofNat z.toNat).map byteD = zs.map (.int .u8) := by
    rw [List.map_map]
    apply List.map_congr_left
    intro z hzm
    have := wf_u8 (hz z hzm)
    have h2 : z.toNat < 256 := by omega
    simp [byteD, Nat.mod_eq_of_lt h2]; omega
  rw [this]; exact h

theorem all_app {α : Type} {p : α → Bool} {l m : List α} (h : (l ++ m).all p = true) : l.all p = true ∧ m.all p = true := by
  rw [List.all_append, Bool.and_eq_true] at h; exact h

/-! ### Arguments of several cells -/
def isAggB (P : Program) (t : TypeId) : Bool :=
  match P.underlying t with
  | some (.struct _) | some (.array _ _) => true
  | _ => false

theorem arg_agg {r : Reach} {b0 : Nat} {t : TypeId} {ts : List TypeId} {v : Value} {W : World} (ha : isAggB P t = true) (hts : P.cellTypes P.depth t = some ts) (hval : Value.okWide P W r b0 t v) :
    ∃ cs : Array Value, v = .agg cs ∧ cs.size = P.cellsOf t ∧ ∀ i x, cs[i]? = some x → ∃ u, ts[i % ts.length]? = some u ∧ Cell.okWide P W r b0 u x := by
  unfold isAggB at ha
  unfold Value.okWide at hval
  have key : ∃ cs : Array Value, v = .agg cs ∧ cs.size = P.cellsOf t ∧ Row.okWide P W r b0 t cs := by
    split at ha
    · rename_i fs h; rw [h] at hval; exact hval
    · rename_i n e h; rw [h] at hval; exact hval
    · cases ha
  obtain ⟨cs, h1, h2, ts', h3, _, h4⟩ := key
  rw [hts] at h3
  injection h3 with h3; subst h3
  exact ⟨cs, h1, h2, h4⟩

theorem cell_str {r : Reach} {b0 : Nat} {u : TypeId} {x : Value} {W : World} (hu : P.underlying u = some .string) (h : Cell.okWide P W r b0 u x) : ∃ s : ByteArray, x = .string s := by
  simp only [Cell.okWide, hu] at h
  cases x <;> simp_all [Cell.ok]

theorem cell_bool {r : Reach} {b0 : Nat} {u : TypeId} {x : Value} {W : World} (hu : P.underlying u = some .bool) (h : Cell.okWide P W r b0 u x) : ∃ b : Bool, x = .bool b := by
  simp only [Cell.okWide, hu] at h
  cases x <;> simp_all [Cell.ok]

theorem cell_int {r : Reach} {b0 : Nat} {u : TypeId} {k : IntKind} {x : Value} {W : World} (hu : P.underlying u = some (.int k)) (h : Cell.okWide P W r b0 u x) : ∃ n, x = .int k n ∧ k.has n := by
  simp only [Cell.okWide, hu] at h
  cases x <;> simp_all [Cell.ok]

theorem rep_agg {bx : List Nat} {s : Nat → Nat} {W : World} {ds : List D} {cs : Array Value} (hl : ds.length = cs.size) (h : ∀ (i : Nat) (d : D), ds[i]? = some d → ∃ v : Value, cs[i]? = some v ∧ Rep bx s W d v) : Rep bx s W (.agg ds) (.agg cs) :=
  .agg ds cs hl (fun i d hi => by
    obtain ⟨v, hv, hr⟩ := h i d hi
    have : cs.getD i Go.undef = v := by simp [Array.getD_eq_getD_getElem?, hv]
    rw [this]; exact hr)

end Go.Proofs.YtploddijjofphaaDoor.V
