/-
For every input the law FillHalves returns true, and its argument reads behind the call as it read before: the tied card; no condition but that errors.errorType is what the program's text lays.
-/
import Derived.Test.YtdmlojinmkcldaaDoorLG
import Derived.Test.YtdmlojinmkcldaaDoorLK
import Derived.Test.YtdmlojinmkcldaaDoorTie
import Derived.Test.YtdmlojinmkcldaaDoorCards
import Derived.SevenTiedAt
namespace Go.Proofs.YtdmlojinmkcldaaDoor
open Go.ChangeShapes Go.WideShapes Go.RowKit
namespace V

noncomputable abbrev K10 : Callees := upd K9 4 (runV T K9 fi4)

set_option maxRecDepth 100000 in
theorem law_lifted (os : Os) (started : os.Started) (H : Type) (enc : TypeId × Value → H) :
    ReturnsInHanded {} Tryd.checked os 4 .any (fun w args => (Rows.fillHalvesSpec.pre enc Tryd.prog Tryd.f4 [] false w args ∧ laidMetH Tryd.prog seatLaid w) ∧ sizedMet enc Tryd.prog Tryd.f4 (OpenSpec.ofChange Rows.fillHalvesSpec) false w args)
      (Rows.fillHalvesSpec.post enc Tryd.prog Tryd.f4 false true false false) := by
  refine returnsInHanded_of_change_and (C := Tryd.checked) (X := fun w _ => laidMetH Tryd.prog seatLaid w) (fun _ _ _ hh h => h.of_heap hh) seatOwn started (by kernel_rfl) Tryd.func4
    (ChangeSpec.witness_at (enc := enc) (C := Tryd.checked) (os := os) (X := fun w _ => laidMetH Tryd.prog seatLaid w) false (laidWorld os) #[.slice none 0 0] 8 rfl (by kernel_rfl) (by kernel_rfl) (by kernel_rfl) (by kernel_rfl) (by kernel_rfl) (laidWorld_met os _)) ?_
  intro W base args ds gs before hval0 hW _ _ hL _
  have hval : ∀ (j : Nat) t v, Tryd.f4.params[j]? = some t → args[j]? = some v → Value.okWide Tryd.prog W .any base t v := hval0
  have hW0 : DataW.Whole enc Tryd.prog Tryd.f4.params.toList [] false W args.toList ds gs before := hW
  obtain ⟨p, q, hA, _, _, _, _⟩ := hW0
  have hparams : Tryd.f4.params = #[34] := by kernel_rfl
  rw [hparams] at hA hval
  have ub : Tryd.prog.underlying 4 = some .bool := by kernel_rfl
  have hg := handle_of_laid hL
  have hl : laidAt (c0 Tryd.prog W) := ⟨Nat.lt_of_le_of_lt (Nat.zero_le _) (World.block_lt_of_cell? W _ hg), hg⟩

  obtain ⟨v0, d0, rfl, rfl, h0⟩ := trodAll_one hA
  have u0 : Tryd.prog.underlying 34 = some (.slice 5) := by kernel_rfl
  have u1 : Tryd.prog.underlying 5 = some (.int .u8) := by kernel_rfl
  have key : ∃ d : D, K10 4 [d] [] = some (.bool true, []) ∧ Rep (fun _ => 0) (sizeAt W) W d v0 := by
    rcases arg_ints u0 u1 (by kernel_rfl) (hval 0 _ _ rfl rfl) h0 with h | ⟨zs, _, hz, h⟩
    · exact ⟨.nilsl, upd_hit (run4_nil K9 k9_sure []), h⟩
    · refine ⟨_, upd_hit (run4 K9 known11_k9 k9_sure zs (fun n hn => ?_) _ []), h⟩
      exact wf_u8 (hz n hn)
  obtain ⟨d, hk, r0⟩ := key
  have hcall := law_of (CallOK.more (c := c0 Tryd.prog W) rfl (k9_ok rfl hl) ok4) (f := 4) (args := [d]) (vs := #[v0]) hk rfl (fun i e hi => by
    rcases i with _ | i
    · simp at hi; subst hi; exact ⟨_, rfl, r0⟩
    · simp at hi)
  exact contract_of (tb := 4) rfl rfl (by kernel_rfl) ub seatLaidOut (by kernel_rfl) hW hcall

end V

theorem fillHalves_holds : Rows.FillHalvesSaid :=
  OpenClaim.holds_of_wide 4 Tryd.f4 rfl rfl rfl rfl rfl rfl rfl ⟨rfl, rfl, rfl, rfl, rfl⟩ rfl rfl rfl rfl rfl (by kernel_rfl) Tryd.func4 (by kernel_rfl)
    (of_decide_eq_true (by kernel_rfl)) (by unfold Func.isWrapper; rw [if_neg (of_decide_eq_false (by kernel_rfl))]; exact ⟨rfl, rfl⟩)
    (fun os started H enc _ => V.law_lifted os started H enc)

theorem fillHalves_card_holds : Rows.FillHalvesCardSaid :=
  Claim7.holds_tied_plain_at .later [] [.handle] true (true, "6070dc67e626659e217730d5c24db3154a46060097918ee8ac79b56f1a8b24a1") true
    fillHalves_holds (fun _ h => by cases h) (by kernel_rfl) (fun _ h => by cases h) fillHalves_row_tie rfl ⟨rfl, rfl⟩ (by kernel_rfl) rfl
    (fun f fn hf hfn => by
      obtain rfl : f = 4 := Option.some.inj ((show Tryd.prog.funcNamed "warren/warrenlaw11.FillHalves" = some 4 by kernel_rfl).symm.trans hf) |>.symm
      obtain rfl : fn = Tryd.f4 := (Option.some.inj (Tryd.func4.symm.trans hfn)).symm
      exact ⟨by kernel_rfl, fun j t ht => V.standIns (by kernel_rfl) j t ht⟩)
    (by kernel_rfl)
#print axioms fillHalves_card_holds
end Go.Proofs.YtdmlojinmkcldaaDoor
