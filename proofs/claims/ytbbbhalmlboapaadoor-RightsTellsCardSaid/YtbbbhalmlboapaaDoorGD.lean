/-
rights.text, by hand: the walk.
-/
import Derived.Test.YtbbbhalmlboapaaDoorGA
import Derived.Test.YtbbbhalmlboapaaDoorGB
import Derived.Test.YtbbbhalmlboapaaDoorGC
namespace Go.Proofs.YtbbbhalmlboapaaDoor.V
open Go Go.RowKit Go.Lib
open Bld (HasB Kept)
set_option linter.unusedSimpArgs false
set_option linter.unusedVariables false

variable {c : Cx} {g : Gh} {w : World}

theorem repR_row {s : Nat → Nat} {xs : List D} {v : Value} {ls : List Nat} (h : RepR [] s w (.vec 1 xs .fresh) v ls) (hp : ∀ d, d ∈ xs → d.leaf = true ∧ d.plain = true) :
    ∃ ao cp, v = .slice ao xs.length cp ∧ ∀ (i : Nat) (n : Int), xs[i]? = some (.int .u8 n) → ∃ k cs t, ao = some ⟨k, 0, none⟩ ∧ k ∈ ls ∧ k < w.heap.size ∧ w.heap[k]? = some (.cells cs t (0, 0)) ∧ cs[i]? = some (.int .u8 n) := by
  cases h with
  | one _ _ _ h => cases h with
    | one _ _ _ h => cases h with
      | clean _ _ h => cases h with
        | vec _ _ _ _ _ _ hp _ _ _ _ _ => rcases hp with h | ⟨h, _⟩ | h <;> cases h
        | nilv _ _ h => rcases h with h | h <;> cases h
      | tight _ _ h => cases h with
        | vec _ _ _ a cap _ _ _ _ _ _ _ => exact ⟨some a, cap, rfl, fun i n hi => by simp at hi⟩
        | nilv _ _ _ => exact ⟨none, 0, rfl, fun i n hi => by simp at hi⟩
      | fresh sz _ k cap cs t h hs hh hc =>
        refine ⟨_, _, rfl, fun i n hi => ⟨k, cs, t, rfl, by simp, (Array.getElem?_eq_some_iff.1 hh).1, hh, ?_⟩⟩
        cases h with
        | vec _ _ _ _ _ vs _ hcap hsz hcell hrep _ =>
          have hcl : cellsL xs = xs := by
            have : ∀ ys : List D, (∀ d, d ∈ ys → d.leaf = true) → cellsL ys = ys := by
              intro ys
              induction ys with
              | nil => intro _; rfl
              | cons y ys ih =>
                intro hy
                show y.cells ++ cellsL ys = _
                rw [ih (fun d hd => hy d (by simp [hd]))]
                have := hy y (by simp)
                cases y <;> first | rfl | cases this
            exact this xs (fun d hd => (hp d hd).1)
          have h1 := hcell i (.int .u8 n) (by rw [hcl]; exact hi)
          have h2 := hrep i (.int .u8 n) (by rw [hcl]; exact hi)
          rw [add_plain, Nat.zero_add] at h1
          generalize vs i = u at h1 h2
          cases h2
          simpa [World.cell?, hh] using h1

theorem HasB.left {b base : Nat} {p : Value} {l : List UInt8} {w1 w2 : World} {s1 s2 : Nat → Nat} (h : HasB b base p l w1) (hb : base ≤ w1.heap.size) (hl : Left w1 s1 w2 s2) : HasB b base p l w2 ∧ Kept b base w1 w2 := by
  obtain ⟨v, h1, h2⟩ := h.at_
  have hbl := (Array.getElem?_eq_some_iff.1 h1).1
  refine ⟨⟨h.lt, v, (hl.heap b hbl).trans h1, h2.1, ?_⟩, ⟨hl.size, fun k hk _ => hl.heap k (by omega), hl.os, hl.tape, hl.output⟩⟩
  rcases h2.2 with h3 | ⟨gg, cap, cur, e1, e2, e3, e4⟩
  · exact .inl h3
  · exact .inr ⟨gg, cap, cur, e1, e2, (hl.heap gg (Array.getElem?_eq_some_iff.1 e3).1).trans e3, e4⟩
theorem repR_int {bx : List Nat} {s : Nat → Nat} {k : IntKind} {n : Int} {v : Value} {ls : List Nat} (h : RepR bx s w (.int k n) v ls) : v = .int k n := by
  cases h with
  | one _ _ _ h => cases h with
    | one _ _ _ h => cases h with
      | clean _ _ h => cases h; rfl
theorem wb_of {b base : Nat} {p : Value} {l : List UInt8} {w : World} (h : HasB b base p l w) (hp : p = .pointer none ∨ p = .pointer (some ⟨b, 0, none⟩)) (c : UInt8) (n : Int) (hn : n = (c.toNat : Nat)) (hl : l.length ≤ 1000) (hb : base ≤ w.heap.size) :
    Calls Tryd.prog 82 #[.pointer (some ⟨b, 0, none⟩), .int .u8 n] w fun e w' => e = .returned .nilIface ∧ HasB b base (.pointer (some ⟨b, 0, none⟩)) (l ++ [c]) w' ∧ Kept b base w w' := by
  subst hn
  exact Bld.wb_calls h hp c hl hb

theorem ones_get {v i : Nat} (h : i < (bitsR v).length) : ∃ b, b < 6 ∧ (bitsR v)[i]? = some b ∧ (onesR v)[i]? = some (.int .u8 (2 ^ b : Nat)) := by
  refine ⟨(bitsR v)[i], bits_lt (List.getElem_mem h), List.getElem?_eq_getElem h, ?_⟩
  unfold onesR
  rw [List.getElem?_map, List.getElem?_eq_getElem h]; rfl
theorem ones_plain (v : Nat) : ∀ d, d ∈ onesR v → d.leaf = true ∧ d.plain = true := fun d hd => by
  unfold onesR at hd
  obtain ⟨i, _, rfl⟩ := List.mem_map.1 hd
  exact ⟨rfl, rfl⟩

theorem lettersR_take {v k b : Nat} (h : k < (bitsR v).length) (hb : (bitsR v)[k]? = some b) : (lettersR v).take k ++ [letR b] = (lettersR v).take (k + 1) := by
  unfold lettersR
  rw [List.take_add_one, List.getElem?_map, hb]; rfl

set_option maxHeartbeats 4000000 in
set_option maxRecDepth 1000000 in
theorem text_calls {C : Callees} (hP : c.P = Tryd.prog) (hC : CallOK c C) (hf : FS (c.at_ w g []) g [] [] [] w) (r v : Nat)
    (hli : C 19 [.int .u8 r] [] = some (.vec 1 (onesR v) .fresh, [])) (hlo : ∀ i, i < 6 → C 63 [.int .u64 (2 ^ i : Nat)] [] = some (.int .i64 (i : Nat), [])) :
    Calls c.P 61 #[.int .u8 r] w fun e w' => e = .returned (.string ⟨(textS v).toArray⟩) ∧ Left w g.s w' g.s := by
  have l1 : Left w g.s (w.alloc (.cells #[.pointer none, .slice none 0 0] 120)) g.s := by
    have e : (w.alloc (.cells #[.pointer none, .slice none 0 0] 120)).heap = w.heap.push (.cells #[.pointer none, .slice none 0 0] 120) := rfl
    refine ⟨by simp, fun k hk => ?_, rfl, rfl, rfl, fun _ _ => rfl, fun k hk => hf.zero k (by simp at hk; omega)⟩
    rw [e, Array.getElem?_push, if_neg (by omega)]
  have hbx : (w.alloc (.cells #[.pointer none, .slice none 0 0] 120)).heap[w.heap.size]? = some (.cells #[.pointer none, .slice none 0 0] 120 (0, 0)) := by
    have e : (w.alloc (.cells #[.pointer none, .slice none 0 0] 120)).heap = w.heap.push (.cells #[.pointer none, .slice none 0 0] 120) := rfl
    rw [e, Array.getElem?_push, if_pos rfl]
  have hA := use_call hC hli hf l1 (vs := [.int .u8 r]) (.cons _ _ [] _ _ [] (.one _ _ _ (.clean _ _ (.int _ _))) .nil)
  rw [hP] at hA ⊢
  go_enter Tryd.func61, Tryd.ntmps61
  go_wp2_with (go_at_call 19; refine hA.mono ?_; rintro e w2 ⟨v2, rfl, s2, ls, l2, hr, _, hk2⟩; obtain ⟨ao, cp, rfl, hrow⟩ := repR_row hr (ones_plain v))
  have hb0 : HasB w.heap.size w2.heap.size (.pointer none) [] w2 := by
    have := l2.size
    simp at this
    exact ⟨by omega, .slice none 0 0, (l2.heap _ (by simp)).trans hbx, rfl, .inl ⟨rfl, rfl⟩⟩
  have hge : ∀ k, k ∈ ls → w.heap.size < k := fun k hk => by
    have := hk2 k hk
    simp at this
    omega
  have hlen : (onesR v).length = (bitsR v).length := by simp [onesR]
  have hllen : (lettersR v).length = (bitsR v).length := by simp [lettersR]
  have h6 := bits_len v
  have hleft : ∀ w3, Kept w.heap.size w2.heap.size w2 w3 → Left w g.s w3 g.s := fun w3 hk => by
    have l12 := l1.trans l2
    exact ⟨Nat.le_trans l12.size hk.size, fun q hq => (hk.block q (Nat.lt_of_lt_of_le hq l12.size) (by omega)).trans (l12.heap q hq), hk.os.trans l12.os, hk.tape.trans l12.tape, hk.output.trans l12.output, fun _ _ => rfl, fun q hq => hf.zero q (Nat.le_trans (Nat.le_trans l12.size hk.size) hq)⟩
  clear hr hli hbx hA hk2 l1
  rw [hlen]
  clear hlen
  go_loopw [9] (fun i wr => ∃ (k : Nat) (p : Value), k ≤ (bitsR v).length ∧ i = .int .i64 k ∧ (p = .pointer none ∨ p = .pointer (some ⟨w.heap.size, 0, none⟩)) ∧ HasB w.heap.size w2.heap.size p ((lettersR v).take k) wr ∧ Kept w.heap.size w2.heap.size w2 wr) (fun i _ => (bitsR v).length - (RowKit.intOf i).toNat)
  case atStart => exact ⟨0, .pointer none, Nat.zero_le _, rfl, .inl rfl, hb0, Kept.refl _ _ _⟩
  case round =>
    obtain ⟨k, p, hk, rfl, hp, hB, hK⟩ := hrel
    by_cases h : k < (bitsR v).length
    · obtain ⟨b, hb6, hbg, hD⟩ := ones_get h
      obtain ⟨kk, cs, t, rfl, hkl, hks, hkh, hkc⟩ := hrow k _ hD
      have hkk := hge kk hkl
      have c1 : wr.cell? ⟨kk, k, none⟩ = some (.int .u8 (2 ^ b : Nat)) := by
        have := (hK.block kk hks (by omega)).trans hkh
        rw [(Bld.cell_of (by simpa using this) k).1]
        exact hkc
      have hT := lettersR_take h hbg
      have hbk : w2.heap.size ≤ wr.heap.size := hK.size
      have hL := use_call hC (hlo b hb6) hf (hleft wr hK) (vs := [.int .u64 (2 ^ b : Nat)]) (.cons _ _ [] _ _ [] (.one _ _ _ (.clean _ _ (.int _ _))) .nil)
      rw [hP] at hL
      have g0 : (k : Int) < (bitsR v).length := by omega
      have w1 : IntKind.i64.wrap ((k : Int) + 1) = ((k + 1 : Nat) : Int) := by rw [wrapI (by omega) (by omega)]; rfl
      obtain ⟨n, hn⟩ : ∃ n, n = 2 ^ b := ⟨_, rfl⟩
      rw [← hn] at c1 hL
      have hn6 : n < 64 := by rw [hn]; exact (pow_ctz b hb6).1
      have w2' : IntKind.u64.wrap (n : Int) = (n : Int) := wrap_u64 (by omega) (by omega)
      clear hn hbg hD hkh hkc hrow
      have fin : ∀ (w4 : World), HasB w.heap.size w2.heap.size (.pointer (some ⟨w.heap.size, 0, none⟩)) ((lettersR v).take k ++ [letR b]) w4 → Kept w.heap.size w2.heap.size wr w4 → HasB w.heap.size w2.heap.size (.pointer (some ⟨w.heap.size, 0, none⟩)) ((lettersR v).take (k + 1)) w4 ∧ Kept w.heap.size w2.heap.size w2 w4 := fun w4 h1 h2 => by
        rw [hT] at h1
        exact ⟨h1, hK.trans h2⟩
      have hstep : ∀ (c8 : Int), c8 = ((letR b).toNat : Nat) → ∀ (w3 : World) (s3 : Nat → Nat), Left wr g.s w3 s3 → Calls Tryd.prog 82 #[.pointer (some ⟨w.heap.size, 0, none⟩), .int .u8 c8] w3 fun e w' => e = .returned .nilIface ∧ HasB w.heap.size w2.heap.size (.pointer (some ⟨w.heap.size, 0, none⟩)) ((lettersR v).take (k + 1)) w' ∧ Kept w.heap.size w2.heap.size w2 w' := fun c8 h8 w3 s3 hl3 => by
        obtain ⟨q1, q2⟩ := HasB.left hB hbk hl3
        have hl4 : ((lettersR v).take k).length ≤ 1000 := by simp; omega
        refine (wb_of q1 hp (letR b) c8 h8 hl4 (Nat.le_trans hbk q2.size)).mono ?_
        rintro e w4 ⟨rfl, q3, q4⟩
        exact ⟨rfl, fin w4 q3 (q2.trans q4)⟩
      clear fin hT hB hp hleft hb0 hK hf hC hlo
      match b, hb6, hL, hstep with
      | 0, _, hL, hstep =>
        have hs := hstep 114 rfl
        clear hstep
        go_wp2_with (first | (go_at_call 63; refine hL.mono ?_; rintro e w3 ⟨v3, rfl, s3, ls3, l3, hr3, _, _⟩; cases repR_int hr3; clear hr3; have hW := hs w3 s3 l3) | (go_at_call 82; refine hW.mono ?_; rintro e w4 ⟨rfl, h4, k4⟩))
        go_wp2
        go_roundw
        case rel =>
          exact ⟨k + 1, .pointer (some ⟨w.heap.size, 0, none⟩), h, rfl, .inr rfl, h4, k4⟩
        case measure =>
          show (bitsR v).length - ((k : Int) + 1).toNat < (bitsR v).length - ((k : Int)).toNat
          omega
      | 1, _, hL, hstep =>
        have hs := hstep 119 rfl
        clear hstep
        go_wp2_with (first | (go_at_call 63; refine hL.mono ?_; rintro e w3 ⟨v3, rfl, s3, ls3, l3, hr3, _, _⟩; cases repR_int hr3; clear hr3; have hW := hs w3 s3 l3) | (go_at_call 82; refine hW.mono ?_; rintro e w4 ⟨rfl, h4, k4⟩))
        go_wp2
        go_roundw
        case rel =>
          exact ⟨k + 1, .pointer (some ⟨w.heap.size, 0, none⟩), h, rfl, .inr rfl, h4, k4⟩
        case measure =>
          show (bitsR v).length - ((k : Int) + 1).toNat < (bitsR v).length - ((k : Int)).toNat
          omega
      | 2, _, hL, hstep =>
        have hs := hstep 100 rfl
        clear hstep
        go_wp2_with (first | (go_at_call 63; refine hL.mono ?_; rintro e w3 ⟨v3, rfl, s3, ls3, l3, hr3, _, _⟩; cases repR_int hr3; clear hr3; have hW := hs w3 s3 l3) | (go_at_call 82; refine hW.mono ?_; rintro e w4 ⟨rfl, h4, k4⟩))
        go_wp2
        go_roundw
        case rel =>
          exact ⟨k + 1, .pointer (some ⟨w.heap.size, 0, none⟩), h, rfl, .inr rfl, h4, k4⟩
        case measure =>
          show (bitsR v).length - ((k : Int) + 1).toNat < (bitsR v).length - ((k : Int)).toNat
          omega
      | 3, _, hL, hstep =>
        have hs := hstep 115 rfl
        clear hstep
        go_wp2_with (first | (go_at_call 63; refine hL.mono ?_; rintro e w3 ⟨v3, rfl, s3, ls3, l3, hr3, _, _⟩; cases repR_int hr3; clear hr3; have hW := hs w3 s3 l3) | (go_at_call 82; refine hW.mono ?_; rintro e w4 ⟨rfl, h4, k4⟩))
        go_wp2
        go_roundw
        case rel =>
          exact ⟨k + 1, .pointer (some ⟨w.heap.size, 0, none⟩), h, rfl, .inr rfl, h4, k4⟩
        case measure =>
          show (bitsR v).length - ((k : Int) + 1).toNat < (bitsR v).length - ((k : Int)).toNat
          omega
      | 4, _, hL, hstep =>
        have hs := hstep 103 rfl
        clear hstep
        go_wp2_with (first | (go_at_call 63; refine hL.mono ?_; rintro e w3 ⟨v3, rfl, s3, ls3, l3, hr3, _, _⟩; cases repR_int hr3; clear hr3; have hW := hs w3 s3 l3) | (go_at_call 82; refine hW.mono ?_; rintro e w4 ⟨rfl, h4, k4⟩))
        go_wp2
        go_roundw
        case rel =>
          exact ⟨k + 1, .pointer (some ⟨w.heap.size, 0, none⟩), h, rfl, .inr rfl, h4, k4⟩
        case measure =>
          show (bitsR v).length - ((k : Int) + 1).toNat < (bitsR v).length - ((k : Int)).toNat
          omega
      | 5, _, hL, hstep =>
        have hs := hstep 97 rfl
        clear hstep
        go_wp2_with (first | (go_at_call 63; refine hL.mono ?_; rintro e w3 ⟨v3, rfl, s3, ls3, l3, hr3, _, _⟩; cases repR_int hr3; clear hr3; have hW := hs w3 s3 l3) | (go_at_call 82; refine hW.mono ?_; rintro e w4 ⟨rfl, h4, k4⟩))
        go_wp2
        go_roundw
        case rel =>
          exact ⟨k + 1, .pointer (some ⟨w.heap.size, 0, none⟩), h, rfl, .inr rfl, h4, k4⟩
        case measure =>
          show (bitsR v).length - ((k : Int) + 1).toNat < (bitsR v).length - ((k : Int)).toNat
          omega
    · obtain rfl : k = (bitsR v).length := by omega
      have hfull : (lettersR v).take (bitsR v).length = lettersR v := List.take_of_length_le (by omega)
      rw [hfull] at hB
      have hln := Bld.ln_calls hB
      have hend : ∀ w3, Kept w.heap.size w2.heap.size wr w3 → Left w g.s w3 g.s := fun w3 h3 => hleft w3 (hK.trans h3)
      have hend0 := hend wr (Kept.refl _ _ _)
      by_cases h0 : lettersR v = []
      · have e0 : (lettersR v).length = 0 := by rw [h0]; rfl
        have ht : textS v = [45] := by unfold textS; rw [if_pos h0]
        rw [e0] at hln
        clear hB hfull hK hp hf hC hlo hend hleft hb0 hrow h0
        go_wp2_with (go_at_call 83; refine hln.mono ?_; rintro e w3 ⟨rfl, rfl⟩)
        all_goals (try go_ret)
        all_goals exact ⟨by rw [ht]; rfl, hend0⟩
      · have e0 : ¬ ((lettersR v).length : Int) = 0 := by
          intro e
          exact h0 (List.length_eq_zero_iff.1 (by omega))
        have ht : textS v = lettersR v := by unfold textS; rw [if_neg h0]
        have hst := Bld.st_calls hB h0
        clear hB hfull hK hp hf hC hlo hleft hb0 hrow h0
        go_wp2_with (first | (go_at_call 83; refine hln.mono ?_; rintro e w3 ⟨rfl, rfl⟩) | (go_at_call 84; refine hst.mono ?_; rintro e w3 ⟨rfl, h3⟩))
        all_goals (try go_ret)
        all_goals exact ⟨by rw [ht]; rfl, hend _ h3⟩

end Go.Proofs.YtbbbhalmlboapaaDoor.V
