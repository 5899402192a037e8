import Derived.Test.YtnhelkclkdfndaaDoorRW
import Derived.Test.YtnhelkclkdfndaaDoorTie
import Derived.Test.YtnhelkclkdfndaaDoorCards
import Derived.SevenTiedAt
set_option linter.unusedSimpArgs false
set_option linter.unusedVariables false
namespace Go.Proofs.YtnhelkclkdfndaaDoor
open Go.ChangeShapes Go.WideShapes Go.RowKit
namespace V

set_option maxRecDepth 100000 in
theorem law_lifted (os : Os) (started : os.Started) (H : Type) (enc : TypeId × Value → H) :
    ReturnsInHanded {} Tryd.checked os 5 .any (fun w args => (Rows.pinsOnceSpec.pre enc Tryd.prog Tryd.f5 [] false w args ∧ laidMetH Tryd.prog seatLaid w) ∧ sizedMet enc Tryd.prog Tryd.f5 (OpenSpec.ofChange Rows.pinsOnceSpec) false w args)
      (Rows.pinsOnceSpec.post enc Tryd.prog Tryd.f5 false true false false) := by
  refine returnsInHanded_of_change_and (C := Tryd.checked) (X := fun w _ => laidMetH Tryd.prog seatLaid w) (fun _ _ _ hh h => h.of_heap hh) seatOwn started (by kernel_rfl) Tryd.func5
    (ChangeSpec.witness_at (enc := enc) (C := Tryd.checked) (os := os) (X := fun w _ => laidMetH Tryd.prog seatLaid w) false (laidWorld os) #[.slice none 0 0] 8 rfl (by kernel_rfl) (by kernel_rfl) (by kernel_rfl) (by kernel_rfl) (by kernel_rfl) (laidWorld_met os _)) ?_
  intro W base args ds gs before hval0 hW _ hwt hL _
  have hval : ∀ (j : Nat) t v, Tryd.f5.params[j]? = some t → args[j]? = some v → Value.okWide Tryd.prog W .any base t v := hval0
  have hW0 : DataW.Whole enc Tryd.prog Tryd.f5.params.toList [] false W args.toList ds gs before := hW
  obtain ⟨p, q, hA, _, _, _, _⟩ := hW0
  have hparams : Tryd.f5.params = #[60] := by kernel_rfl
  rw [hparams] at hA hval
  have ub : Tryd.prog.underlying 4 = some .bool := by kernel_rfl
  have hg := handle_of_laid hL
  have hl : laidAt (c0 Tryd.prog W) := ⟨Nat.lt_of_le_of_lt (Nat.zero_le _) (World.block_lt_of_cell? W _ hg), hg⟩
  obtain ⟨v0, d0, rfl, rfl, h0⟩ := trodAll_one hA
  have hwt' : (DataW.weights Tryd.prog 60 d0 ++ []).all (· ≤ reachBytes) = true := by
    have := hwt
    rw [hparams] at this
    change (DataW.weightsEach Tryd.prog [60] (d0 :: gs)).all _ = true at this
    simpa only [DataW.weightsEach] using this
  obtain ⟨w0, hwt'⟩ := all_app hwt'
  obtain ⟨l, l0, r0⟩ := arg_prs (hval 0 _ _ rfl rfl) h0
  have hcall := law_of (C18_ok (c := c0 Tryd.prog W) rfl hl) (f := 5) (args := [.vec 2 (l.map prD) .none]) (vs := #[v0]) (has18 rfl rfl rfl rfl _ _ _ (run5 known18 l l0)) rfl (fun i e hi => by
    rcases i with _ | i
    · simp at hi; subst hi; exact ⟨_, rfl, r0⟩
    · simp at hi)
  exact contract_of (tb := 4) rfl rfl (by kernel_rfl) ub seatLaidOut (by kernel_rfl) hW hcall

end V

theorem pinsOnce_holds : Rows.PinsOnceSaid :=
  OpenClaim.holds_of_wide 5 Tryd.f5 rfl rfl rfl rfl rfl rfl rfl ⟨rfl, rfl, rfl, rfl, rfl⟩ rfl rfl rfl rfl rfl (by kernel_rfl) Tryd.func5 (by kernel_rfl)
    (of_decide_eq_true (by kernel_rfl)) (by unfold Func.isWrapper; rw [if_neg (of_decide_eq_false (by kernel_rfl))]; exact ⟨rfl, rfl⟩)
    (fun os started H enc _ => V.law_lifted os started H enc)

theorem pinsOnce_card_holds : Rows.PinsOnceCardSaid :=
  Claim7.holds_tied_plain_at .later [] [.handle] true (true, "8bb5097b303d6c3a2842dd2ab64e8632c086bc3aebd8bb5a4236d51bf2f598ac") true
    pinsOnce_holds (fun _ h => by cases h) (by kernel_rfl) (fun _ h => by cases h) pinsOnce_row_tie rfl ⟨rfl, rfl⟩ (by kernel_rfl) rfl
    (fun f fn hf hfn => by
      obtain rfl : f = 5 := Option.some.inj ((show Tryd.prog.funcNamed "warren/warrenlaw18.PinsOnce" = some 5 by kernel_rfl).symm.trans hf) |>.symm
      obtain rfl : fn = Tryd.f5 := (Option.some.inj (Tryd.func5.symm.trans hfn)).symm
      exact ⟨by kernel_rfl, fun j t ht => V.standIns (by kernel_rfl) j t ht⟩)
    (by kernel_rfl)
#print axioms pinsOnce_card_holds
end Go.Proofs.YtnhelkclkdfndaaDoor
