/-
Layer 2: the callees, one by one.
-/
import Derived.Test.YtdmlojinmkcldaaDoorIG
import Derived.Test.YtdmlojinmkcldaaDoorIM
import Derived.Test.YtdmlojinmkcldaaDoorSA
namespace Go.Proofs.YtdmlojinmkcldaaDoor
open Go.ChangeShapes Go.WideShapes Go.RowKit
namespace V

/-- Bytes as an argument, no more than memory has. -/
theorem arg_ar {H : Type} {enc : TypeId × Value → H} {P : Program} {r : Reach} {b0 : Nat} {held : Bool} {t e : TypeId} {v : Value} {d : DataW H} {ps : List MemPlace} {W : World} (ht : P.underlying t = some (.slice e)) (he : P.underlying e = some (.int .u8)) (hc : P.cellsOf e = 1) (hb : P.bytesOf e = 1)
    (hval : Value.okWide P W r b0 t v) (hd : DataW.Trod enc P W 0 (fun _ => true) held t v d ps) (hw : (d.weights P t).all (· ≤ reachBytes) = true) :
    ∃ (l : List UInt8) (x : D), ArD x l ∧ l.length ≤ 140737488355328 ∧ Rep (fun _ => 0) (sizeAt W) W x v := by
  obtain ⟨fuel, hf⟩ := hd
  rcases open_ints ht he hc hf with ⟨h1, _⟩ | ⟨a, len, cap, zs, h1, _, h3, h4, h5, h6, h7, h8⟩
  · obtain ⟨a0, l0, c0, rfl⟩ := Go.WideShapes.okWide_slice ht hval
    simp [Value.cells] at h1
    obtain ⟨rfl, rfl, rfl⟩ := h1
    exact ⟨[], _, .inl ⟨rfl, rfl⟩, by simp, .nilsl⟩
  · obtain ⟨a0, l0, c0, rfl⟩ := Go.WideShapes.okWide_slice ht hval
    simp [Value.cells] at h1
    obtain ⟨rfl, rfl, rfl⟩ := h1
    have hsp : a.spot = none := by
      simp only [Value.okWide, ht, Cell.okWide, Cell.ok] at hval
      exact hval.2.2.2.1
    obtain ⟨b, off, sp⟩ := a
    simp only at hsp
    subst hsp
    simp only [if_true] at h5
    have hlen : (zs.take l0).length = l0 := by simp; omega
    have hd : d = .slice (lits .u8 (zs.take l0)) (lits .u8 (zs.drop l0)) := congrArg Prod.fst h6
    have hle : l0 ≤ 140737488355328 := by
      subst hd
      unfold DataW.weights at hw
      simp only [ht, List.all_cons, Bool.and_eq_true, decide_eq_true_eq, hb, Nat.mul_one, lits, List.length_map] at hw
      have := hw.1
      rw [hlen] at this
      have h2 : reachBytes = 140737488351232 := rfl
      omega
    refine ⟨(zs.take l0).map fun z => UInt8.ofNat z.toNat, _, .inr rfl, by rw [List.length_map, hlen]; exact hle, ?_⟩
    have hm : ((zs.take l0).map fun z => UInt8.ofNat z.toNat).map byteD = (zs.take l0).map (.int .u8) := by
      rw [List.map_map]
      apply List.map_congr_left
      intro z hz
      have := wf_u8 (h8 z (List.mem_of_mem_take hz))
      have h2 : z.toNat < 256 := by omega
      simp [byteD, Nat.mod_eq_of_lt h2]; omega
    rw [hm]
    have := rep_row (bx := fun _ => 0) (W := W) (b := b) (off := off) (cap := c0) (xs := (zs.take l0).map (.int .u8)) (fun i => .int .u8 (zs.getD i 0)) (by simp; omega) (fun x hx => by
      obtain ⟨n, _, rfl⟩ := List.mem_map.1 hx
      rfl) (fun i d hi => by
        rw [List.getElem?_map] at hi
        have hil : i < l0 := by
          rcases Nat.lt_or_ge i l0 with h | h
          · exact h
          · rw [List.getElem?_eq_none (by simp; omega)] at hi; cases hi
        rw [List.getElem?_take_of_lt hil] at hi
        have hiz : i < zs.length := by omega
        rw [List.getElem?_eq_getElem hiz] at hi
        simp at hi
        subst hi
        refine ⟨?_, ?_⟩
        · have := h7 i hiz
          rw [add_plain] at this; simpa using this
        · simp [hiz]; exact .int .u8 _)
    rw [List.length_map, hlen] at this
    exact this

theorem errD_cases (n : Nat) : (n = 0 ∧ errD n = .nili) ∨ (n ≠ 0 ∧ errD n = .iface 77 (.int .i64 n)) := by
  unfold errD
  by_cases h : n = 0
  · exact .inl ⟨h, by rw [if_pos h]⟩
  · exact .inr ⟨h, by rw [if_neg h]⟩

theorem all_app {α : Type} {p : α → Bool} {l m : List α} (h : (l ++ m).all p = true) : l.all p = true ∧ m.all p = true := by
  rw [List.all_append, Bool.and_eq_true] at h; exact h

noncomputable abbrev I1 : Callees := upd noCallees 40 numV
noncomputable abbrev I2 : Callees := upd I1 41 (runV T I1 fi41)
noncomputable abbrev I3 : Callees := upd I2 60 (runV T I2 fi60)
noncomputable abbrev I4 : Callees := upd I3 42 (runV T I3 fi42)
noncomputable abbrev I5 : Callees := upd I4 38 (runV T I4 fi38)
noncomputable abbrev I6 : Callees := upd I5 39 (runV T I5 fi39)
noncomputable abbrev I7 : Callees := upd I6 61 (runV T I6 fi61)
noncomputable abbrev I8 : Callees := upd I7 43 (runV T I7 fi43)
noncomputable abbrev I9 : Callees := upd I8 44 (runV T I8 fi44)
noncomputable abbrev I10 : Callees := upd I9 37 (runV T I9 fi37)
theorem iok {c : Cx} (hP : c.P = Tryd.prog) (hl : laidAt c) : CallOK c I10 := by
  have h1 : CallOK c I1 := num_ok hP hl CallOK.none
  have h2 : CallOK c I2 := CallOK.more hP h1 ok41
  have h3 : CallOK c I3 := CallOK.more hP h2 ok60
  have h4 : CallOK c I4 := CallOK.more hP h3 ok42
  have h5 : CallOK c I5 := CallOK.more hP h4 ok38
  have h6 : CallOK c I6 := CallOK.more hP h5 ok39
  have h7 : CallOK c I7 := CallOK.more hP h6 ok61
  have h8 : CallOK c I8 := CallOK.more hP h7 ok43
  have h9 : CallOK c I9 := CallOK.more hP h8 ok44
  have h10 : CallOK c I10 := CallOK.more hP h9 ok37
  exact h10

theorem known02_i7 : Known02 I7 where
  sum d l B hd hl := by (repeat refine upd_skip rfl ?_); exact upd_hit (run38 I4 (fun s d l B hs hd hl => upd_hit (run42 I3 (fun v B hv => upd_hit (run60 I2 v hv B)) s hs d l hd hl B)) d l hd hl B)
  more s d l B hs hd hl := by (repeat refine upd_skip rfl ?_); exact upd_hit (run42 I3 (fun v B hv => upd_hit (run60 I2 v hv B)) s hs d l hd hl B)
  rmore s d l B hs hd hl := by (repeat refine upd_skip rfl ?_); exact upd_hit (run41 I1 s hs d l hd hl B)
  get d l B hd := upd_hit (run61 I6 d l hd B)
  noughts s n B hs := by (repeat refine upd_skip rfl ?_); exact upd_hit (run39 I5 (fun v B hv => by (repeat refine upd_skip rfl ?_); exact upd_hit (run60 I2 v hv B)) s hs n B)
  num n B := by
    (repeat refine upd_skip rfl ?_)
    rcases errD_cases n with ⟨rfl, h⟩ | ⟨_, h⟩ <;> rw [h] <;> exact upd_hit rfl

theorem Known02.skip {C : Callees} (h : Known02 C) {f : FuncId} {r : List D → Hp → Option (D × Hp)} (h1 : Nat.beq f 38 = false) (h2 : Nat.beq f 42 = false) (h3 : Nat.beq f 41 = false) (h4 : Nat.beq f 61 = false) (h5 : Nat.beq f 39 = false) (h6 : Nat.beq f 40 = false) :
    Known02 (upd C f r) where
  sum d l B hd hl := upd_skip h1 (h.sum d l B hd hl)
  more s d l B hs hd hl := upd_skip h2 (h.more s d l B hs hd hl)
  rmore s d l B hs hd hl := upd_skip h3 (h.rmore s d l B hs hd hl)
  get d l B hd := upd_skip h4 (h.get d l B hd)
  noughts s n B hs := upd_skip h5 (h.noughts s n B hs)
  num n B := upd_skip h6 (h.num n B)

theorem known02_i8 : Known02 I8 := known02_i7.skip rfl rfl rfl rfl rfl rfl
theorem known02_i9 : Known02 I9 := known02_i8.skip rfl rfl rfl rfl rfl rfl
theorem known02_i10 : Known02 I10 := known02_i9.skip rfl rfl rfl rfl rfl rfl
theorem i8_is : IsOk I8 := fun d l B hd hl => upd_hit (run43 I7 known02_i7 d l hd hl B)
theorem i9_is : IsOk I9 := fun d l B hd hl => upd_skip rfl (i8_is d l B hd hl)
theorem i9_ris : RIsOk I9 := fun d l B hd hl => upd_hit (run44 I8 known02_i8 d l hd hl B)
theorem i10_is : IsOk I10 := fun d l B hd hl => upd_skip rfl (i9_is d l B hd hl)
theorem i10_ris : RIsOk I10 := fun d l B hd hl => upd_skip rfl (i9_ris d l B hd hl)
theorem i10_sure : I10 37 [] [] = some (.bool true, []) := upd_hit (run37 I9 known02_i9 i9_is)

end V
end Go.Proofs.YtdmlojinmkcldaaDoor
