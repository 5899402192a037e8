/-
For every input the law VarintApart returns true, and its arguments read behind the call as they read before: the tied card; no condition but that errors.errorType is what the program's text lays.
-/
import Derived.Test.YtdmlojinmkcldaaDoorJI
import Derived.Test.YtdmlojinmkcldaaDoorJJ
import Derived.Test.YtdmlojinmkcldaaDoorTie
import Derived.Test.YtdmlojinmkcldaaDoorCards
import Derived.SevenTiedAt
namespace Go.Proofs.YtdmlojinmkcldaaDoor
open Go.ChangeShapes Go.WideShapes Go.RowKit
namespace V

noncomputable abbrev J14 : Callees := upd J13 13 (runV T J13 fi13)

set_option maxRecDepth 100000 in
theorem law_lifted (os : Os) (started : os.Started) (H : Type) (enc : TypeId × Value → H) :
    ReturnsInHanded {} Tryd.checked os 13 .any (fun w args => (Rows.varintApartSpec.pre enc Tryd.prog Tryd.f13 [] false w args ∧ laidMetH Tryd.prog seatLaid w) ∧ sizedMet enc Tryd.prog Tryd.f13 (OpenSpec.ofChange Rows.varintApartSpec) false w args)
      (Rows.varintApartSpec.post enc Tryd.prog Tryd.f13 false true false false) := by
  refine returnsInHanded_of_change_and (C := Tryd.checked) (X := fun w _ => laidMetH Tryd.prog seatLaid w) (fun _ _ _ hh h => h.of_heap hh) seatOwn started (by kernel_rfl) Tryd.func13
    (ChangeSpec.witness_at (enc := enc) (C := Tryd.checked) (os := os) (X := fun w _ => laidMetH Tryd.prog seatLaid w) false (laidWorld os) #[.int .u64 0, .int .u64 0] 8 rfl (by kernel_rfl) (by kernel_rfl) (by kernel_rfl) (by kernel_rfl) (by kernel_rfl) (laidWorld_met os _)) ?_
  intro W base args ds gs before hval0 hW _ _ hL _
  have hval : ∀ (j : Nat) t v, Tryd.f13.params[j]? = some t → args[j]? = some v → Value.okWide Tryd.prog W .any base t v := hval0
  have hW0 : DataW.Whole enc Tryd.prog Tryd.f13.params.toList [] false W args.toList ds gs before := hW
  obtain ⟨p, q, hA, _, _, _, _⟩ := hW0
  have hparams : Tryd.f13.params = #[65, 65] := by kernel_rfl
  rw [hparams] at hA hval
  have ub : Tryd.prog.underlying 4 = some .bool := by kernel_rfl
  have hg := handle_of_laid hL
  have hl : laidAt (c0 Tryd.prog W) := ⟨Nat.lt_of_le_of_lt (Nat.zero_le _) (World.block_lt_of_cell? W _ hg), hg⟩

  obtain ⟨v0, v1, d0, d1, p0, p1, rfl, rfl, rfl, h0, h1⟩ := trodAll_two hA
  have u2 : Tryd.prog.underlying 65 = some (.int .u64) := by kernel_rfl
  obtain ⟨a, ha, r0⟩ := arg_u64 u2 (hval 0 _ _ rfl rfl) h0
  obtain ⟨b, hb, r1⟩ := arg_u64 u2 (hval 1 _ _ rfl rfl) h1
  have hcall := law_of (CallOK.more (c := c0 Tryd.prog W) rfl (jok rfl hl) ok13) (f := 13) (args := [.int .u64 a, .int .u64 b]) (vs := #[v0, v1]) (upd_hit (run13 J13 known03_j13 j13_sure a b ha hb [])) rfl (fun i e hi => by
    rcases i with _ | _ | i
    · simp at hi; subst hi; exact ⟨_, rfl, r0⟩
    · simp at hi; subst hi; exact ⟨_, rfl, r1⟩
    · simp at hi)
  exact contract_of (tb := 4) rfl rfl (by kernel_rfl) ub seatLaidOut (by kernel_rfl) hW hcall

end V

theorem varintApart_holds : Rows.VarintApartSaid :=
  OpenClaim.holds_of_wide 13 Tryd.f13 rfl rfl rfl rfl rfl rfl rfl ⟨rfl, rfl, rfl, rfl, rfl⟩ rfl rfl rfl rfl rfl (by kernel_rfl) Tryd.func13 (by kernel_rfl)
    (of_decide_eq_true (by kernel_rfl)) (by unfold Func.isWrapper; rw [if_neg (of_decide_eq_false (by kernel_rfl))]; exact ⟨rfl, rfl⟩)
    (fun os started H enc _ => V.law_lifted os started H enc)

theorem varintApart_card_holds : Rows.VarintApartCardSaid :=
  Claim7.holds_tied_plain_at .later [] [.handle] true (true, "6070dc67e626659e217730d5c24db3154a46060097918ee8ac79b56f1a8b24a1") true
    varintApart_holds (fun _ h => by cases h) (by kernel_rfl) (fun _ h => by cases h) varintApart_row_tie rfl ⟨rfl, rfl⟩ (by kernel_rfl) rfl
    (fun f fn hf hfn => by
      obtain rfl : f = 13 := Option.some.inj ((show Tryd.prog.funcNamed "warren/warrenlaw03.VarintApart" = some 13 by kernel_rfl).symm.trans hf) |>.symm
      obtain rfl : fn = Tryd.f13 := (Option.some.inj (Tryd.func13.symm.trans hfn)).symm
      exact ⟨by kernel_rfl, fun j t ht => V.standIns (by kernel_rfl) j t ht⟩)
    (by kernel_rfl)
#print axioms varintApart_card_holds
end Go.Proofs.YtdmlojinmkcldaaDoor

