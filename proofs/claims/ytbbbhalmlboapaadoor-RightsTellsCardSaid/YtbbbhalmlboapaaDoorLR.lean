import Derived.Test.YtbbbhalmlboapaaDoorLE
import Derived.Test.YtbbbhalmlboapaaDoorTie
import Derived.Test.YtbbbhalmlboapaaDoorCards
import Derived.SevenTiedAt
set_option linter.unusedSimpArgs false
set_option linter.unusedVariables false
namespace Go.Proofs.YtbbbhalmlboapaaDoor
open Go.ChangeShapes Go.WideShapes Go.RowKit
namespace V

set_option maxRecDepth 100000 in
theorem law_lifted (os : Os) (started : os.Started) (H : Type) (enc : TypeId × Value → H) :
    ReturnsInHanded {} Tryd.checked os 3 .any (fun w args => (Rows.rightsTellsSpec.pre enc Tryd.prog Tryd.f3 [] false w args ∧ laidMetH Tryd.prog seatLaid w) ∧ sizedMet enc Tryd.prog Tryd.f3 (OpenSpec.ofChange Rows.rightsTellsSpec) false w args)
      (Rows.rightsTellsSpec.post enc Tryd.prog Tryd.f3 false true false false) := by
  refine returnsInHanded_of_change_and (C := Tryd.checked) (X := fun w _ => laidMetH Tryd.prog seatLaid w) (fun _ _ _ hh h => h.of_heap hh) seatOwn started (by kernel_rfl) Tryd.func3
    (ChangeSpec.witness_at (enc := enc) (C := Tryd.checked) (os := os) (X := fun w _ => laidMetH Tryd.prog seatLaid w) false (laidWorld os) #[.int .u8 0, .int .u8 0, .string ⟨#[]⟩] 8 rfl (by kernel_rfl) (by kernel_rfl) (by kernel_rfl) (by kernel_rfl) (by kernel_rfl) (laidWorld_met os _)) ?_
  intro W base args ds gs before hval0 hW _ hwt hL _
  have hval : ∀ (j : Nat) t v, Tryd.f3.params[j]? = some t → args[j]? = some v → Value.okWide Tryd.prog W .any base t v := hval0
  have hW0 : DataW.Whole enc Tryd.prog Tryd.f3.params.toList [] false W args.toList ds gs before := hW
  obtain ⟨p, q, hA, _, _, _, _⟩ := hW0
  have hparams : Tryd.f3.params = #[5, 5, 9] := by kernel_rfl
  rw [hparams] at hA hval
  have ub : Tryd.prog.underlying 4 = some .bool := by kernel_rfl
  have hg := handle_of_laid hL
  have hl : laidAt (c0 Tryd.prog W) := ⟨Nat.lt_of_le_of_lt (Nat.zero_le _) (World.block_lt_of_cell? W _ hg), hg⟩
  obtain ⟨v0, v1, v2, d0, d1, d2, p0, p1, p2, rfl, rfl, rfl, h0, h1, h2⟩ := trodAll_three hA
  have hwt' : (DataW.weights Tryd.prog 5 d0 ++ (DataW.weights Tryd.prog 5 d1 ++ (DataW.weights Tryd.prog 9 d2 ++ []))).all (· ≤ reachBytes) = true := by
    have := hwt
    rw [hparams] at this
    change (DataW.weightsEach Tryd.prog [5, 5, 9] (d0 :: d1 :: d2 :: gs)).all _ = true at this
    simpa only [DataW.weightsEach] using this
  obtain ⟨w0, hwt'⟩ := all_app hwt'
  obtain ⟨w1, hwt'⟩ := all_app hwt'
  obtain ⟨w2, hwt'⟩ := all_app hwt'
  obtain ⟨q, q0, r0⟩ := arg_u8 (by kernel_rfl : Tryd.prog.underlying 5 = some (.int .u8)) (hval 0 _ _ rfl rfl) h0
  obtain ⟨al, al0, r1⟩ := arg_u8 (by kernel_rfl : Tryd.prog.underlying 5 = some (.int .u8)) (hval 1 _ _ rfl rfl) h1
  obtain ⟨s, s0, r2⟩ := arg_str (by kernel_rfl : Tryd.prog.underlying 9 = some .string) (hval 2 _ _ rfl rfl) h2 w2
  have hcall := law_of (C26_ok (c := c0 Tryd.prog W) rfl hl) (f := 3) (args := [.int .u8 (q : Nat), .int .u8 (al : Nat), .str s]) (vs := #[v0, v1, v2]) (has26 rfl rfl rfl rfl _ _ _ (run3 known26 q al q0 al0 s)) rfl (fun i e hi => by
    rcases i with _ | _ | _ | i
    · simp at hi; subst hi; exact ⟨_, rfl, r0⟩
    · simp at hi; subst hi; exact ⟨_, rfl, r1⟩
    · simp at hi; subst hi; exact ⟨_, rfl, r2⟩
    · simp at hi)
  exact contract_of (tb := 4) rfl rfl (by kernel_rfl) ub seatLaidOut (by kernel_rfl) hW hcall

end V

theorem rightsTells_holds : Rows.RightsTellsSaid :=
  OpenClaim.holds_of_wide 3 Tryd.f3 rfl rfl rfl rfl rfl rfl rfl ⟨rfl, rfl, rfl, rfl, rfl⟩ rfl rfl rfl rfl rfl (by kernel_rfl) Tryd.func3 (by kernel_rfl)
    (of_decide_eq_true (by kernel_rfl)) (by unfold Func.isWrapper; rw [if_neg (of_decide_eq_false (by kernel_rfl))]; exact ⟨rfl, rfl⟩)
    (fun os started H enc _ => V.law_lifted os started H enc)

theorem rightsTells_card_holds : Rows.RightsTellsCardSaid :=
  Claim7.holds_tied_plain_at .later [] [.handle] true (true, "22287b2a4a140c0005f40513ef25c731c5152f2108f91ae27569659444a06bab") true
    rightsTells_holds (fun _ h => by cases h) (by kernel_rfl) (fun _ h => by cases h) rightsTells_row_tie rfl ⟨rfl, rfl⟩ (by kernel_rfl) rfl
    (fun f fn hf hfn => by
      obtain rfl : f = 3 := Option.some.inj ((show Tryd.prog.funcNamed "warren/warrenlaw26.RightsTells" = some 3 by kernel_rfl).symm.trans hf) |>.symm
      obtain rfl : fn = Tryd.f3 := (Option.some.inj (Tryd.func3.symm.trans hfn)).symm
      exact ⟨by kernel_rfl, fun j t ht => V.standIns (by kernel_rfl) j t ht⟩)
    (by kernel_rfl)
#print axioms rightsTells_card_holds
end Go.Proofs.YtbbbhalmlboapaaDoor
