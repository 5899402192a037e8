/-
For every input the law CrcMixes returns true, and its arguments read behind the call as they read before: the tied card; no condition but that errors.errorType is what the program's text lays.
-/
import Derived.Test.YtdmlojinmkcldaaDoorIG
import Derived.Test.YtdmlojinmkcldaaDoorIJ
import Derived.Test.YtdmlojinmkcldaaDoorTie
import Derived.Test.YtdmlojinmkcldaaDoorCards
import Derived.SevenTiedAt
namespace Go.Proofs.YtdmlojinmkcldaaDoor
open Go.ChangeShapes Go.WideShapes Go.RowKit
namespace V

noncomputable abbrev I11 : Callees := upd I10 10 (runV T I10 fi10)

set_option maxRecDepth 100000 in
theorem law_lifted (os : Os) (started : os.Started) (H : Type) (enc : TypeId × Value → H) :
    ReturnsInHanded {} Tryd.checked os 10 .any (fun w args => (Rows.crcMixesSpec.pre enc Tryd.prog Tryd.f10 [] false w args ∧ laidMetH Tryd.prog seatLaid w) ∧ sizedMet enc Tryd.prog Tryd.f10 (OpenSpec.ofChange Rows.crcMixesSpec) false w args)
      (Rows.crcMixesSpec.post enc Tryd.prog Tryd.f10 false true false false) := by
  refine returnsInHanded_of_change_and (C := Tryd.checked) (X := fun w _ => laidMetH Tryd.prog seatLaid w) (fun _ _ _ hh h => h.of_heap hh) seatOwn started (by kernel_rfl) Tryd.func10
    (ChangeSpec.witness_at (enc := enc) (C := Tryd.checked) (os := os) (X := fun w _ => laidMetH Tryd.prog seatLaid w) false (laidWorld os) #[.slice none 0 0, .slice none 0 0, .slice none 0 0] 8 rfl (by kernel_rfl) (by kernel_rfl) (by kernel_rfl) (by kernel_rfl) (by kernel_rfl) (laidWorld_met os _)) ?_
  intro W base args ds gs before hval0 hW _ hwt hL _
  have hval : ∀ (j : Nat) t v, Tryd.f10.params[j]? = some t → args[j]? = some v → Value.okWide Tryd.prog W .any base t v := hval0
  have hW0 : DataW.Whole enc Tryd.prog Tryd.f10.params.toList [] false W args.toList ds gs before := hW
  obtain ⟨p, q, hA, _, _, _, _⟩ := hW0
  have hparams : Tryd.f10.params = #[34, 34, 34] := by kernel_rfl
  rw [hparams] at hA hval
  have ub : Tryd.prog.underlying 4 = some .bool := by kernel_rfl
  have hg := handle_of_laid hL
  have hl : laidAt (c0 Tryd.prog W) := ⟨Nat.lt_of_le_of_lt (Nat.zero_le _) (World.block_lt_of_cell? W _ hg), hg⟩

  obtain ⟨v0, v1, v2, d0, d1, d2, p0, p1, p2, rfl, rfl, rfl, h0, h1, h2⟩ := trodAll_three hA
  have u0 : Tryd.prog.underlying 34 = some (.slice 5) := by kernel_rfl
  have u1 : Tryd.prog.underlying 5 = some (.int .u8) := by kernel_rfl
  have u2 : Tryd.prog.underlying 3 = some (.int .i64) := by kernel_rfl
  have hwt' : (DataW.weights Tryd.prog 34 d0 ++ (DataW.weights Tryd.prog 34 d1 ++ (DataW.weights Tryd.prog 34 d2 ++ []))).all (· ≤ reachBytes) = true := by
    have := hwt
    rw [hparams] at this
    change (DataW.weightsEach Tryd.prog [34, 34, 34] (d0 :: d1 :: d2 :: gs)).all _ = true at this
    simpa only [DataW.weightsEach] using this
  obtain ⟨w0, hwt'⟩ := all_app hwt'
  obtain ⟨w1, hwt'⟩ := all_app hwt'
  obtain ⟨w2, _⟩ := all_app hwt'
  obtain ⟨a, x, hx, hla, r0⟩ := arg_ar u0 u1 (by kernel_rfl) (by kernel_rfl) (hval 0 _ _ rfl rfl) h0 w0
  obtain ⟨b, y, hy, hlb, r1⟩ := arg_ar u0 u1 (by kernel_rfl) (by kernel_rfl) (hval 1 _ _ rfl rfl) h1 w1
  obtain ⟨c, z, hz, hlc, r2⟩ := arg_ar u0 u1 (by kernel_rfl) (by kernel_rfl) (hval 2 _ _ rfl rfl) h2 w2
  have hcall := law_of (CallOK.more (c := c0 Tryd.prog W) rfl (iok rfl hl) ok10) (f := 10) (args := [x, y, z]) (vs := #[v0, v1, v2]) (upd_hit (run10 I10 known02_i10 i10_sure x y z a b c hx hy hz)) rfl (fun i e hi => by
    rcases i with _ | _ | _ | i
    · simp at hi; subst hi; exact ⟨_, rfl, r0⟩
    · simp at hi; subst hi; exact ⟨_, rfl, r1⟩
    · simp at hi; subst hi; exact ⟨_, rfl, r2⟩
    · simp at hi)
  exact contract_of (tb := 4) rfl rfl (by kernel_rfl) ub seatLaidOut (by kernel_rfl) hW hcall

end V

theorem crcMixes_holds : Rows.CrcMixesSaid :=
  OpenClaim.holds_of_wide 10 Tryd.f10 rfl rfl rfl rfl rfl rfl rfl ⟨rfl, rfl, rfl, rfl, rfl⟩ rfl rfl rfl rfl rfl (by kernel_rfl) Tryd.func10 (by kernel_rfl)
    (of_decide_eq_true (by kernel_rfl)) (by unfold Func.isWrapper; rw [if_neg (of_decide_eq_false (by kernel_rfl))]; exact ⟨rfl, rfl⟩)
    (fun os started H enc _ => V.law_lifted os started H enc)

theorem crcMixes_card_holds : Rows.CrcMixesCardSaid :=
  Claim7.holds_tied_plain_at .later [] [.handle] true (true, "6070dc67e626659e217730d5c24db3154a46060097918ee8ac79b56f1a8b24a1") true
    crcMixes_holds (fun _ h => by cases h) (by kernel_rfl) (fun _ h => by cases h) crcMixes_row_tie rfl ⟨rfl, rfl⟩ (by kernel_rfl) rfl
    (fun f fn hf hfn => by
      obtain rfl : f = 10 := Option.some.inj ((show Tryd.prog.funcNamed "warren/warrenlaw02.CrcMixes" = some 10 by kernel_rfl).symm.trans hf) |>.symm
      obtain rfl : fn = Tryd.f10 := (Option.some.inj (Tryd.func10.symm.trans hfn)).symm
      exact ⟨by kernel_rfl, fun j t ht => V.standIns (by kernel_rfl) j t ht⟩)
    (by kernel_rfl)
#print axioms crcMixes_card_holds
end Go.Proofs.YtdmlojinmkcldaaDoor

