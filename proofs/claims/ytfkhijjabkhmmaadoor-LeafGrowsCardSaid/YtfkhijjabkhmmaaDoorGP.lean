import Derived.Test.YtfkhijjabkhmmaaDoorGN
import Derived.Test.YtfkhijjabkhmmaaDoorTie
import Derived.Test.YtfkhijjabkhmmaaDoorCards
import Derived.SevenTiedAt
set_option linter.unusedSimpArgs false
set_option linter.unusedVariables false
namespace Go.Proofs.YtfkhijjabkhmmaaDoor
open Go.ChangeShapes Go.WideShapes Go.RowKit
namespace V

set_option maxRecDepth 100000 in
theorem law_lifted (os : Os) (started : os.Started) (H : Type) (enc : TypeId × Value → H) :
    ReturnsInHanded {} Tryd.checked os 5 .any (fun w args => (Rows.leafGrowsSpec.pre enc Tryd.prog Tryd.f5 [] false w args ∧ laidMetH Tryd.prog seatLaid w) ∧ sizedMet enc Tryd.prog Tryd.f5 (OpenSpec.ofChange Rows.leafGrowsSpec) false w args)
      (Rows.leafGrowsSpec.post enc Tryd.prog Tryd.f5 false true false false) := by
  refine returnsInHanded_of_change_and (C := Tryd.checked) (X := fun w _ => laidMetH Tryd.prog seatLaid w) (fun _ _ _ hh h => h.of_heap hh) seatOwn started (by kernel_rfl) Tryd.func5
    (ChangeSpec.witness_at (enc := enc) (C := Tryd.checked) (os := os) (X := fun w _ => laidMetH Tryd.prog seatLaid w) false (laidWorld os) #[.slice none 0 0] 8 rfl (by kernel_rfl) (by kernel_rfl) (by kernel_rfl) (by kernel_rfl) (by kernel_rfl) (laidWorld_met os _)) ?_
  intro W base args ds gs before hval0 hW _ hwt hL _
  have hval : ∀ (j : Nat) t v, Tryd.f5.params[j]? = some t → args[j]? = some v → Value.okWide Tryd.prog W .any base t v := hval0
  have hW0 : DataW.Whole enc Tryd.prog Tryd.f5.params.toList [] false W args.toList ds gs before := hW
  obtain ⟨p, q, hA, _, _, _, _⟩ := hW0
  have hparams : Tryd.f5.params = #[22] := by kernel_rfl
  rw [hparams] at hA hval
  have ub : Tryd.prog.underlying 4 = some .bool := by kernel_rfl
  have hg := handle_of_laid hL
  have hl : laidAt (c0 Tryd.prog W) := ⟨Nat.lt_of_le_of_lt (Nat.zero_le _) (World.block_lt_of_cell? W _ hg), hg⟩
  obtain ⟨v0, d0, rfl, rfl, h0⟩ := trodAll_one hA
  have hwt' : (DataW.weights Tryd.prog 22 d0 ++ []).all (· ≤ reachBytes) = true := by
    have := hwt
    rw [hparams] at this
    change (DataW.weightsEach Tryd.prog [22] (d0 :: gs)).all _ = true at this
    simpa only [DataW.weightsEach] using this
  obtain ⟨w0, hwt'⟩ := all_app hwt'
  obtain ⟨l, l0, l1, r0⟩ := arg_cells (hval 0 _ _ rfl rfl) h0 w0
  have hcall := law_of (C08_ok (c := c0 Tryd.prog W) rfl hl) (f := 5) (args := [.vec 4 (l.map ceD) .none]) (vs := #[v0]) (has08 rfl rfl rfl _ _ _ (run5 known08 l l0 l1)) rfl (fun i e hi => by
    rcases i with _ | i
    · simp at hi; subst hi; exact ⟨_, rfl, r0⟩
    · simp at hi)
  exact contract_of (tb := 4) rfl rfl (by kernel_rfl) ub seatLaidOut (by kernel_rfl) hW hcall

end V

theorem leafGrows_holds : Rows.LeafGrowsSaid :=
  OpenClaim.holds_of_wide 5 Tryd.f5 rfl rfl rfl rfl rfl rfl rfl ⟨rfl, rfl, rfl, rfl, rfl⟩ rfl rfl rfl rfl rfl (by kernel_rfl) Tryd.func5 (by kernel_rfl)
    (of_decide_eq_true (by kernel_rfl)) (by unfold Func.isWrapper; rw [if_neg (of_decide_eq_false (by kernel_rfl))]; exact ⟨rfl, rfl⟩)
    (fun os started H enc _ => V.law_lifted os started H enc)

theorem leafGrows_card_holds : Rows.LeafGrowsCardSaid :=
  Claim7.holds_tied_plain_at .later [] [.handle] true (true, "7a860a35fa9e1a210dee5afdf9d81b8c9fc6c6e13e8f3dcdd4426fe276b6b8ca") true
    leafGrows_holds (fun _ h => by cases h) (by kernel_rfl) (fun _ h => by cases h) leafGrows_row_tie rfl ⟨rfl, rfl⟩ (by kernel_rfl) rfl
    (fun f fn hf hfn => by
      obtain rfl : f = 5 := Option.some.inj ((show Tryd.prog.funcNamed "warren/warrenlaw08.LeafGrows" = some 5 by kernel_rfl).symm.trans hf) |>.symm
      obtain rfl : fn = Tryd.f5 := (Option.some.inj (Tryd.func5.symm.trans hfn)).symm
      exact ⟨by kernel_rfl, fun j t ht => V.standIns (by kernel_rfl) j t ht⟩)
    (by kernel_rfl)
#print axioms leafGrows_card_holds
end Go.Proofs.YtfkhijjabkhmmaaDoor
