/-
For every input the law CrcFinds returns true, and its arguments read behind the call as they read before: the tied card; no condition but that errors.errorType is what the program's text lays.
-/
import Derived.Test.YtdmlojinmkcldaaDoorIG
import Derived.Test.YtdmlojinmkcldaaDoorIJ
import Derived.Test.YtdmlojinmkcldaaDoorTie
import Derived.Test.YtdmlojinmkcldaaDoorCards
import Derived.SevenTiedAt
namespace Go.Proofs.YtdmlojinmkcldaaDoor
open Go.ChangeShapes Go.WideShapes Go.RowKit
namespace V

noncomputable abbrev I11 : Callees := upd I10 9 (runV T I10 fi9)

set_option maxRecDepth 100000 in
theorem law_lifted (os : Os) (started : os.Started) (H : Type) (enc : TypeId × Value → H) :
    ReturnsInHanded {} Tryd.checked os 9 .any (fun w args => (Rows.crcFindsSpec.pre enc Tryd.prog Tryd.f9 [] false w args ∧ laidMetH Tryd.prog seatLaid w) ∧ sizedMet enc Tryd.prog Tryd.f9 (OpenSpec.ofChange Rows.crcFindsSpec) false w args)
      (Rows.crcFindsSpec.post enc Tryd.prog Tryd.f9 false true false false) := by
  refine returnsInHanded_of_change_and (C := Tryd.checked) (X := fun w _ => laidMetH Tryd.prog seatLaid w) (fun _ _ _ hh h => h.of_heap hh) seatOwn started (by kernel_rfl) Tryd.func9
    (ChangeSpec.witness_at (enc := enc) (C := Tryd.checked) (os := os) (X := fun w _ => laidMetH Tryd.prog seatLaid w) false (laidWorld os) #[.slice none 0 0, .slice none 0 0, .int .i64 0] 8 rfl (by kernel_rfl) (by kernel_rfl) (by kernel_rfl) (by kernel_rfl) (by kernel_rfl) (laidWorld_met os _)) ?_
  intro W base args ds gs before hval0 hW _ hwt hL _
  have hval : ∀ (j : Nat) t v, Tryd.f9.params[j]? = some t → args[j]? = some v → Value.okWide Tryd.prog W .any base t v := hval0
  have hW0 : DataW.Whole enc Tryd.prog Tryd.f9.params.toList [] false W args.toList ds gs before := hW
  obtain ⟨p, q, hA, _, _, _, _⟩ := hW0
  have hparams : Tryd.f9.params = #[34, 34, 3] := by kernel_rfl
  rw [hparams] at hA hval
  have ub : Tryd.prog.underlying 4 = some .bool := by kernel_rfl
  have hg := handle_of_laid hL
  have hl : laidAt (c0 Tryd.prog W) := ⟨Nat.lt_of_le_of_lt (Nat.zero_le _) (World.block_lt_of_cell? W _ hg), hg⟩

  obtain ⟨v0, v1, v2, d0, d1, d2, p0, p1, p2, rfl, rfl, rfl, h0, h1, h2⟩ := trodAll_three hA
  have u0 : Tryd.prog.underlying 34 = some (.slice 5) := by kernel_rfl
  have u1 : Tryd.prog.underlying 5 = some (.int .u8) := by kernel_rfl
  have u2 : Tryd.prog.underlying 3 = some (.int .i64) := by kernel_rfl
  have hwt' : (DataW.weights Tryd.prog 34 d0 ++ (DataW.weights Tryd.prog 34 d1 ++ (DataW.weights Tryd.prog 3 d2 ++ []))).all (· ≤ reachBytes) = true := by
    have := hwt
    rw [hparams] at this
    change (DataW.weightsEach Tryd.prog [34, 34, 3] (d0 :: d1 :: d2 :: gs)).all _ = true at this
    simpa only [DataW.weightsEach] using this
  obtain ⟨w0, hwt'⟩ := all_app hwt'
  obtain ⟨w1, hwt'⟩ := all_app hwt'
  obtain ⟨w2, _⟩ := all_app hwt'
  obtain ⟨a, x, hx, hla, r0⟩ := arg_ar u0 u1 (by kernel_rfl) (by kernel_rfl) (hval 0 _ _ rfl rfl) h0 w0
  obtain ⟨b, y, hy, hlb, r1⟩ := arg_ar u0 u1 (by kernel_rfl) (by kernel_rfl) (hval 1 _ _ rfl rfl) h1 w1
  obtain ⟨n, hn0, hn1, r2⟩ := arg_i64 u2 (hval 2 _ _ rfl rfl) h2
  have hcall := law_of (CallOK.more (c := c0 Tryd.prog W) rfl (iok rfl hl) ok9) (f := 9) (args := [x, y, .int .i64 n]) (vs := #[v0, v1, v2]) (upd_hit (run9 I10 known02_i10 i10_is i10_sure x y a b hx hy n hn0 hn1 hla hlb)) rfl (fun i e hi => by
    rcases i with _ | _ | _ | i
    · simp at hi; subst hi; exact ⟨_, rfl, r0⟩
    · simp at hi; subst hi; exact ⟨_, rfl, r1⟩
    · simp at hi; subst hi; exact ⟨_, rfl, r2⟩
    · simp at hi)
  exact contract_of (tb := 4) rfl rfl (by kernel_rfl) ub seatLaidOut (by kernel_rfl) hW hcall

end V

theorem crcFinds_holds : Rows.CrcFindsSaid :=
  OpenClaim.holds_of_wide 9 Tryd.f9 rfl rfl rfl rfl rfl rfl rfl ⟨rfl, rfl, rfl, rfl, rfl⟩ rfl rfl rfl rfl rfl (by kernel_rfl) Tryd.func9 (by kernel_rfl)
    (of_decide_eq_true (by kernel_rfl)) (by unfold Func.isWrapper; rw [if_neg (of_decide_eq_false (by kernel_rfl))]; exact ⟨rfl, rfl⟩)
    (fun os started H enc _ => V.law_lifted os started H enc)

theorem crcFinds_card_holds : Rows.CrcFindsCardSaid :=
  Claim7.holds_tied_plain_at .later [] [.handle] true (true, "6070dc67e626659e217730d5c24db3154a46060097918ee8ac79b56f1a8b24a1") true
    crcFinds_holds (fun _ h => by cases h) (by kernel_rfl) (fun _ h => by cases h) crcFinds_row_tie rfl ⟨rfl, rfl⟩ (by kernel_rfl) rfl
    (fun f fn hf hfn => by
      obtain rfl : f = 9 := Option.some.inj ((show Tryd.prog.funcNamed "warren/warrenlaw02.CrcFinds" = some 9 by kernel_rfl).symm.trans hf) |>.symm
      obtain rfl : fn = Tryd.f9 := (Option.some.inj (Tryd.func9.symm.trans hfn)).symm
      exact ⟨by kernel_rfl, fun j t ht => V.standIns (by kernel_rfl) j t ht⟩)
    (by kernel_rfl)
#print axioms crcFinds_card_holds
end Go.Proofs.YtdmlojinmkcldaaDoor

