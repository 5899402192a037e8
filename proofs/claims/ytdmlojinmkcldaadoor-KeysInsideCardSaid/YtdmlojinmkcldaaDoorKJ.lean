/-
For every input the law KeysInside returns true, and its arguments read behind the call as they read before: the tied card; no condition but that errors.errorType is what the program's text lays.
-/
import Derived.Test.YtdmlojinmkcldaaDoorKG
import Derived.Test.YtdmlojinmkcldaaDoorKK
import Derived.Test.YtdmlojinmkcldaaDoorTie
import Derived.Test.YtdmlojinmkcldaaDoorCards
import Derived.SevenTiedAt
namespace Go.Proofs.YtdmlojinmkcldaaDoor
open Go.ChangeShapes Go.WideShapes Go.RowKit
namespace V

noncomputable abbrev K18 : Callees := upd K17 7 (runV T K17 fi7)

set_option maxRecDepth 100000 in
theorem law_lifted (os : Os) (started : os.Started) (H : Type) (enc : TypeId × Value → H) :
    ReturnsInHanded {} Tryd.checked os 7 .any (fun w args => (Rows.keysInsideSpec.pre enc Tryd.prog Tryd.f7 [] false w args ∧ laidMetH Tryd.prog seatLaid w) ∧ sizedMet enc Tryd.prog Tryd.f7 (OpenSpec.ofChange Rows.keysInsideSpec) false w args)
      (Rows.keysInsideSpec.post enc Tryd.prog Tryd.f7 false true false false) := by
  refine returnsInHanded_of_change_and (C := Tryd.checked) (X := fun w _ => laidMetH Tryd.prog seatLaid w) (fun _ _ _ hh h => h.of_heap hh) seatOwn started (by kernel_rfl) Tryd.func7
    (ChangeSpec.witness_at (enc := enc) (C := Tryd.checked) (os := os) (X := fun w _ => laidMetH Tryd.prog seatLaid w) false (laidWorld os) #[.agg #[.string ⟨#[]⟩, .string ⟨#[]⟩, .bool false], .agg #[.string ⟨#[]⟩, .string ⟨#[]⟩, .bool false], .agg #[.string ⟨#[]⟩, .string ⟨#[]⟩, .bool false]] 8 rfl (by kernel_rfl) (by kernel_rfl) (by kernel_rfl) (by kernel_rfl) (by kernel_rfl) (laidWorld_met os _)) ?_
  intro W base args ds gs before hval0 hW _ _ hL _
  have hval : ∀ (j : Nat) t v, Tryd.f7.params[j]? = some t → args[j]? = some v → Value.okWide Tryd.prog W .any base t v := hval0
  have hW0 : DataW.Whole enc Tryd.prog Tryd.f7.params.toList [] false W args.toList ds gs before := hW
  obtain ⟨p, q, hA, _, _, _, _⟩ := hW0
  have hparams : Tryd.f7.params = #[37, 37, 37] := by kernel_rfl
  rw [hparams] at hA hval
  have ub : Tryd.prog.underlying 4 = some .bool := by kernel_rfl
  have hg := handle_of_laid hL
  have hl : laidAt (c0 Tryd.prog W) := ⟨Nat.lt_of_le_of_lt (Nat.zero_le _) (World.block_lt_of_cell? W _ hg), hg⟩

  obtain ⟨v0, v1, v2, d0, d1, d2, p0, p1, p2, rfl, rfl, rfl, h0, h1, h2⟩ := trodAll_three hA
  obtain ⟨alo, ahi, aop, r0⟩ := arg_span (hval 0 _ _ rfl rfl)
  obtain ⟨blo, bhi, bop, r1⟩ := arg_span (hval 1 _ _ rfl rfl)
  obtain ⟨clo, chi, cop, r2⟩ := arg_span (hval 2 _ _ rfl rfl)
  have hcall := law_of (CallOK.more (c := c0 Tryd.prog W) rfl (k17_ok rfl hl) ok7) (f := 7) (args := [spD alo ahi aop, spD blo bhi bop, spD clo chi cop]) (vs := #[v0, v1, v2]) (upd_hit (run7 K17 known07_k17 k17_long k17_sure alo ahi blo bhi clo chi aop bop cop [])) rfl (fun i e hi => by
    rcases i with _ | _ | _ | i
    · simp at hi; subst hi; exact ⟨_, rfl, r0⟩
    · simp at hi; subst hi; exact ⟨_, rfl, r1⟩
    · simp at hi; subst hi; exact ⟨_, rfl, r2⟩
    · simp at hi)
  exact contract_of (tb := 4) rfl rfl (by kernel_rfl) ub seatLaidOut (by kernel_rfl) hW hcall

end V

theorem keysInside_holds : Rows.KeysInsideSaid :=
  OpenClaim.holds_of_wide 7 Tryd.f7 rfl rfl rfl rfl rfl rfl rfl ⟨rfl, rfl, rfl, rfl, rfl⟩ rfl rfl rfl rfl rfl (by kernel_rfl) Tryd.func7 (by kernel_rfl)
    (of_decide_eq_true (by kernel_rfl)) (by unfold Func.isWrapper; rw [if_neg (of_decide_eq_false (by kernel_rfl))]; exact ⟨rfl, rfl⟩)
    (fun os started H enc _ => V.law_lifted os started H enc)

theorem keysInside_card_holds : Rows.KeysInsideCardSaid :=
  Claim7.holds_tied_plain_at .later [] [.handle] true (true, "6070dc67e626659e217730d5c24db3154a46060097918ee8ac79b56f1a8b24a1") true
    keysInside_holds (fun _ h => by cases h) (by kernel_rfl) (fun _ h => by cases h) keysInside_row_tie rfl ⟨rfl, rfl⟩ (by kernel_rfl) rfl
    (fun f fn hf hfn => by
      obtain rfl : f = 7 := Option.some.inj ((show Tryd.prog.funcNamed "warren/warrenlaw07.KeysInside" = some 7 by kernel_rfl).symm.trans hf) |>.symm
      obtain rfl : fn = Tryd.f7 := (Option.some.inj (Tryd.func7.symm.trans hfn)).symm
      exact ⟨by kernel_rfl, fun j t ht => V.standIns (by kernel_rfl) j t ht⟩)
    (by kernel_rfl)
#print axioms keysInside_card_holds
end Go.Proofs.YtdmlojinmkcldaaDoor
