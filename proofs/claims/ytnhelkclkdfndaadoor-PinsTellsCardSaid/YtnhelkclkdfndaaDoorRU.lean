/-
Layer 18: arguments.
-/
import Derived.Test.YtnhelkclkdfndaaDoorRO
namespace Go.Proofs.YtnhelkclkdfndaaDoor.V
open Go Go.RowKit
set_option linter.unusedSimpArgs false
set_option linter.unusedVariables false

section
variable {H : Type} {enc : TypeId × Value → H} {P : Program} {W : World} {base : Nat} {spare : Nat → Bool} {held : Bool}

theorem each_all {p : Nat → Bool} : ∀ (ts : List TypeId) (ds : List (DataW H)) (i : Nat) (t : TypeId) (d : DataW H), ts[i]? = some t → ds[i]? = some d → (DataW.weightsEach P ts ds).all p = true → (d.weights P t).all p = true
  | [], _, i, _, _, h, _, _ => by simp at h
  | _ :: _, [], i, _, _, _, h, _ => by simp at h
  | t :: ts, d :: ds, 0, _, _, h, h', ha => by
    rw [DataW.weightsEach, List.all_append, Bool.and_eq_true] at ha
    obtain rfl := Option.some.inj h
    obtain rfl := Option.some.inj h'
    exact ha.1
  | t :: ts, d :: ds, i + 1, _, _, h, h', ha => by
    rw [DataW.weightsEach, List.all_append, Bool.and_eq_true] at ha
    exact each_all ts ds i _ _ h h' ha.2

def fieldOf (P : Program) (t : TypeId) (i : Nat) : Option (TypeId × Nat) := match P.underlying t with
  | some (.struct fs) => fs[i]?.map fun g => (g.type, g.offset)
  | _ => .none

/-- How many elements a slice in a struct may have, by its weight. -/
theorem field_le' {sz i : Nat} {t e : TypeId} {fs : Array Field} {g : Field} {v : Value} {d : DataW H} {ps : List MemPlace} {ds xs : List D} (ht : P.underlying t = some (.struct fs)) (hi : fs[i]? = some g) (he : P.underlying g.type = some (.slice e)) (h1 : P.cellsOf g.type = 1)
    (hd : DataW.Trod enc P W base spare held t v d ps) (hw : (d.weights P t).all (· ≤ reachBytes) = true) (hr : Rep [] (sizeAt W) W (.agg ds) v) (hx : ds[g.offset]? = some (.vec sz xs .none)) : xs.length * P.bytesOf e ≤ 140737488351232 := by
  obtain ⟨fuel, hf⟩ := hd
  cases hr with
  | agg _ vs hl hv =>
    have hv := hv _ _ hx
    obtain ⟨ys, m, rfl, hy, hcl, hyl, hys⟩ := DataW.trod_struct ht hf
    have h2 := hys i g hi
    have hlt : i < fs.size := (Array.getElem?_eq_some_iff.1 hi).1
    rw [List.getElem?_eq_getElem (by omega), h1] at h2
    have ho : g.offset < vs.size := by rw [← hl]; exact lt_of_get hx
    have hcs : (((Value.agg vs).cells.toList.drop g.offset).take 1) = [vs.getD g.offset undef] := by
      show (vs.toList.drop g.offset).take 1 = _
      rw [List.drop_eq_getElem_cons (by simpa using ho)]
      simp [Array.getD, ho]
    rw [hcs] at h2
    have hdd : d = .agg (ys.map (·.1)) := congrArg Prod.fst hy
    subst hdd
    unfold DataW.weights at hw
    simp only [ht] at hw
    have h3 := each_all _ _ i g.type ys[i].1 (by rw [List.getElem?_map, Array.getElem?_toList, hi]; rfl) (by rw [List.getElem?_map, List.getElem?_eq_getElem (by omega)]; rfl) hw
    generalize vs.getD g.offset undef = u at hv h2
    rcases DataW.trod_slice he h2 with ⟨h4, _⟩ | ⟨a, len, cap, elems, rest, q, _, h4, h5, _, _, _, hlen, _⟩
    · simp only [List.cons.injEq, and_true] at h4
      subst h4
      cases hv with
      | nilv _ _ _ => simp
    · simp only [List.cons.injEq, and_true] at h4
      subst h4
      rw [h5] at h3
      unfold DataW.weights at h3
      simp only [he, List.all_cons, Bool.and_eq_true, decide_eq_true_eq, List.length_map] at h3
      have h6 := h3.1
      rw [hlen] at h6
      have hlx : len = xs.length := by
        cases hv with
        | vec _ _ _ _ _ _ _ _ _ _ _ _ => rfl
      refine reach_le (Nat.le_trans ?_ h6)
      rw [hlx]
      exact Nat.mul_le_mul_right _ (Nat.le_add_right _ _)
theorem field_le {sz i off : Nat} {t e ft : TypeId} {v : Value} {d : DataW H} {ps : List MemPlace} {ds xs : List D} (hf : fieldOf P t i = some (ft, off)) (he : P.underlying ft = some (.slice e)) (h1 : P.cellsOf ft = 1)
    (hd : DataW.Trod enc P W base spare held t v d ps) (hw : (d.weights P t).all (· ≤ reachBytes) = true) (hr : Rep [] (sizeAt W) W (.agg ds) v) (hx : ds[off]? = some (.vec sz xs .none)) : xs.length * P.bytesOf e ≤ 140737488351232 := by
  unfold fieldOf at hf
  split at hf
  · rename_i fs ht
    rw [Option.map_eq_some_iff] at hf
    obtain ⟨g, hg, hgg⟩ := hf
    injection hgg with e1 e2
    subst e1 e2
    exact field_le' ht hg he h1 hd hw hr hx
  · cases hf
end

theorem nums_of : ∀ (x : List D) (m : Nat), x.length = m → (∀ (i : Nat) (d : D), x[i]? = some d → OfSh (.int .u64) d) → ∃ f : Nat → Nat, x = nums .u64 m f ∧ ∀ i, i < m → f i < 18446744073709551616
  | x, m, hl, h => by
    let f : Nat → Nat := fun i => match x[i]? with | some (.int _ n) => n.toNat | _ => 0
    have key : ∀ i, i < m → ∃ n : Nat, x[i]? = some (.int .u64 n) ∧ n < 18446744073709551616 := fun i hi => by
      obtain ⟨d, hd⟩ : ∃ d, x[i]? = some d := ⟨_, List.getElem?_eq_getElem (by omega)⟩
      obtain ⟨n, rfl, hn⟩ := (h i d hd).u64
      exact ⟨n, hd, hn⟩
    refine ⟨f, List.ext_getElem? fun i => ?_, fun i hi => ?_⟩
    · rcases Nat.lt_or_ge i m with hi | hi
      · obtain ⟨n, h1, _⟩ := key i hi
        rw [h1]
        unfold nums
        rw [List.getElem?_map, List.getElem?_range hi]
        show _ = some (D.int .u64 (f i : Nat))
        simp only [f, h1, Int.toNat_natCast]
      · rw [List.getElem?_eq_none (by omega)]
        unfold nums
        rw [List.getElem?_eq_none (by simpa using hi)]
    · obtain ⟨n, h1, h2⟩ := key i hi
      simp only [f, h1, Int.toNat_natCast]; exact h2

set_option maxRecDepth 100000 in
theorem arg_set {W : World} {r : Reach} {b0 : Nat} {v : Value} (hval : Value.okWide Tryd.prog W r b0 26 v) : ∃ s : Nat → Nat, Wds s ∧ Rep [] (sizeAt W) W (.agg (nums .u64 16 s)) v :=
  arg_nums (n := 16) (e := 22) (k := .u64) (by kernel_rfl) (by kernel_rfl) (by kernel_rfl) (by decide) (by kernel_rfl) rfl hval

theorem get_rep {n i : Nat} {l s : Sh} (h : i < n) (hs : l = s) : (List.replicate n s)[i]? = some l := by
  subst hs
  rw [List.getElem?_replicate, if_pos h]

set_option maxRecDepth 100000 in
theorem arg_pins {H : Type} {enc : TypeId × Value → H} {base : Nat} {spare : Nat → Bool} {held : Bool} {W : World} {r : Reach} {b0 : Nat} {v : Value} {d : DataW H} {ps : List MemPlace} (hval : Value.okWide Tryd.prog W r b0 25 v) (hd : DataW.Trod enc Tryd.prog W base spare held 25 v d ps) (hw : (d.weights Tryd.prog 25).all (· ≤ reachBytes) = true) :
    ∃ (n : Nat) (l : List Pn), l.length * 144 ≤ 140737488351232 ∧ WdL l ∧ n < 18446744073709551616 ∧ (∀ p, p ∈ l → p.id < 18446744073709551616 ∧ p.sq < 18446744073709551616) ∧ Rep [] (sizeAt W) W (psD n l) v := by
  obtain ⟨ds, h1, h2, h3⟩ := arg_struct (n := 8) (ls := [.int .u64, .rows (List.replicate 18 (.int .u64))]) (ts := [22, 23]) (by kernel_rfl) (by kernel_rfl) (by kernel_rfl) hval hd
  obtain ⟨a, b, rfl⟩ := len2 h1
  obtain ⟨n, rfl, hn⟩ := (h2 0 _ a rfl rfl).u64
  obtain ⟨xs, rfl, hl, h4, h5⟩ := (h2 1 _ b rfl rfl).rows'
  obtain ⟨l, e1, hq, hlen⟩ := map_of (f := pnD) (Q := fun p => Wds p.pg ∧ p.id < 18446744073709551616 ∧ p.sq < 18446744073709551616) xs (fun x hx => by
    have hxl := h4 x hx
    rw [List.length_replicate] at hxl
    match x, hxl with
    | a :: b :: x', hxl =>
      have hg : ∀ (i : Nat) (d : D), (List.replicate 18 (Sh.int .u64))[i]? = some (.int .u64) → (a :: b :: x')[i]? = some d → OfSh (.int .u64) d := fun i d q1 q2 => h5 _ i _ d hx q1 q2
      obtain ⟨i, rfl, hi⟩ := (hg 0 a (get_rep (by decide) rfl) rfl).u64
      obtain ⟨q, rfl, hq⟩ := (hg 1 b (get_rep (by decide) rfl) rfl).u64
      obtain ⟨f, rfl, hf⟩ := nums_of x' 16 (by simpa using hxl) (fun j d hd => by
        have hj := lt_of_get hd
        have : x'.length = 16 := by simpa using hxl
        exact hg (j + 2) d (get_rep (by omega) rfl) (by simpa using hd))
      exact ⟨⟨i, q, f⟩, rfl, hf, hi, hq⟩)
  rw [List.length_replicate] at h3
  rw [e1] at h3
  have h7 := field_le (i := 1) (e := 48) (xs := l.map pnD) (sz := 18) (ft := 23) (off := 1) (by kernel_rfl) (by kernel_rfl) (by kernel_rfl) hd hw h3 rfl
  have h8 : Program.bytesOf Tryd.prog 48 = 144 := by kernel_rfl
  rw [h8, List.length_map] at h7
  exact ⟨n, l, h7, fun p hp => (hq p hp).1, hn, fun p hp => (hq p hp).2, h3⟩

end Go.Proofs.YtnhelkclkdfndaaDoor.V
