/-
Layer 11: FillSplits: the callees, one by one; the row; the card.
-/
import Derived.Test.YtdmlojinmkcldaaDoorLE
import Derived.Test.YtdmlojinmkcldaaDoorSA
import Derived.Test.YtdmlojinmkcldaaDoorTie
import Derived.Test.YtdmlojinmkcldaaDoorCards
import Derived.SevenTiedAt
namespace Go.Proofs.YtdmlojinmkcldaaDoor
open Go.ChangeShapes Go.WideShapes Go.RowKit
namespace V

noncomputable abbrev K1 : Callees := upd noCallees 18 numV
noncomputable abbrev K2 : Callees := upd K1 19 (runV T K1 fi19)
noncomputable abbrev K3 : Callees := upd K2 20 (runV T K2 fi20)
noncomputable abbrev K4 : Callees := upd K3 56 (runV T K3 fi56)
noncomputable abbrev K5 : Callees := upd K4 17 (runV T K4 fi17)
noncomputable abbrev K6 : Callees := upd K5 15 (runV T K5 fi15)
noncomputable abbrev K7 : Callees := upd K6 57 (runV T K6 fi57)
noncomputable abbrev K8 : Callees := upd K7 16 (runV T K7 fi16)
noncomputable abbrev K9 : Callees := upd K8 14 (runV T K8 fi14)
noncomputable abbrev K10 : Callees := upd K9 3 (runV T K9 fi3)

theorem k9_ok {c : Cx} (hP : c.P = Tryd.prog) (hl : laidAt c) : CallOK c K9 :=
  CallOK.more hP (CallOK.more hP (CallOK.more hP (CallOK.more hP (CallOK.more hP (CallOK.more hP (CallOK.more hP (CallOK.more hP (num_ok hP hl CallOK.none)
    ok19) ok20) ok56) ok17) ok15) ok57) ok16) ok14

theorem k10_ok {c : Cx} (hP : c.P = Tryd.prog) (hl : laidAt c) : CallOK c K10 := CallOK.more hP (k9_ok hP hl) ok3

theorem known11_k8 : Known11 K8 where
  split l d bes B hd := upd_skip rfl (upd_skip rfl (upd_hit (run15_sl K5 (fun l p B h => upd_skip rfl (upd_hit (run56 K3 l p B h))) (fun n B => upd_skip rfl (upd_skip rfl (upd_hit (run20 K2 n B)))) l d hd bes B)))
  most n B := upd_skip rfl (upd_skip rfl (upd_skip rfl (upd_hit (run17 K4 n B))))
  enough n B := upd_skip rfl (upd_skip rfl (upd_skip rfl (upd_skip rfl (upd_skip rfl (upd_skip rfl (upd_hit (run19 K1 n B)))))))
  fits n B := upd_skip rfl (upd_skip rfl (upd_skip rfl (upd_skip rfl (upd_skip rfl (upd_hit (run20 K2 n B))))))
  numN _ := upd_skip rfl (upd_skip rfl (upd_skip rfl (upd_skip rfl (upd_skip rfl (upd_skip rfl (upd_skip rfl (upd_hit rfl)))))))
  numE _ _ := upd_skip rfl (upd_skip rfl (upd_skip rfl (upd_skip rfl (upd_skip rfl (upd_skip rfl (upd_skip rfl (upd_hit rfl)))))))
  ref l d bes B hd := upd_hit (run16_sl K7 l d hd bes B (fun q at_ h1 h2 h3 => upd_hit (run57 K6 l q bes at_ B h1 h2 h3)))

theorem known11_k9 : Known11 K9 where
  split l d bes B hd := upd_skip rfl (known11_k8.split l d bes B hd)
  most n B := upd_skip rfl (known11_k8.most n B)
  enough n B := upd_skip rfl (known11_k8.enough n B)
  fits n B := upd_skip rfl (known11_k8.fits n B)
  numN B := upd_skip rfl (known11_k8.numN B)
  numE n B := upd_skip rfl (known11_k8.numE n B)
  ref l d bes B hd := upd_skip rfl (known11_k8.ref l d bes B hd)

theorem k9_sure (B : Hp) : K9 14 [] B = some (.bool true, B) := upd_hit (run14 K8 known11_k8 B)
theorem k10_law (l : List Int) (d : D) (hd : Sl d l) (bes n : Int) (B : Hp) : K10 3 [d, .int .i64 bes, .int .i64 n] B = some (.bool true, B) :=
  upd_hit (run3_sl K9 known11_k9 k9_sure l d hd bes n B)

set_option maxRecDepth 100000 in
theorem law_lifted (os : Os) (started : os.Started) (H : Type) (enc : TypeId × Value → H) :
    ReturnsInHanded {} Tryd.checked os 3 .any (fun w args => (Rows.fillSplitsSpec.pre enc Tryd.prog Tryd.f3 [] false w args ∧ laidMetH Tryd.prog seatLaid w) ∧ sizedMet enc Tryd.prog Tryd.f3 (OpenSpec.ofChange Rows.fillSplitsSpec) false w args)
      (Rows.fillSplitsSpec.post enc Tryd.prog Tryd.f3 false true false false) := by
  refine returnsInHanded_of_change_and (C := Tryd.checked) (X := fun w _ => laidMetH Tryd.prog seatLaid w) (fun _ _ _ hh h => h.of_heap hh) seatOwn started (by kernel_rfl) Tryd.func3
    (ChangeSpec.witness_at (enc := enc) (C := Tryd.checked) (os := os) (X := fun w _ => laidMetH Tryd.prog seatLaid w) false (laidWorld os) #[.slice none 0 0, .int .i64 0, .int .i64 0] 8 rfl (by kernel_rfl) (by kernel_rfl) (by kernel_rfl) (by kernel_rfl) (by kernel_rfl) (laidWorld_met os _)) ?_
  intro W base args ds gs before hval0 hW _ _ hL _
  have hval : ∀ (j : Nat) t v, Tryd.f3.params[j]? = some t → args[j]? = some v → Value.okWide Tryd.prog W .any base t v := hval0
  have hW0 : DataW.Whole enc Tryd.prog Tryd.f3.params.toList [] false W args.toList ds gs before := hW
  obtain ⟨p, q, hA, _, _, _, _⟩ := hW0
  have hparams : Tryd.f3.params = #[22, 3, 3] := by kernel_rfl
  rw [hparams] at hA hval
  obtain ⟨v0, v1, v2, d0, d1, d2, p0, p1, p2, rfl, rfl, rfl, h0, h1, h2⟩ := trodAll_three hA
  have u0 : Tryd.prog.underlying 22 = some (.slice 3) := by kernel_rfl
  have u1 : Tryd.prog.underlying 3 = some (.int .i64) := by kernel_rfl
  have u2 : Tryd.prog.underlying 4 = some .bool := by kernel_rfl
  have hg := handle_of_laid hL
  have hl : laidAt (c0 Tryd.prog W) := ⟨Nat.lt_of_le_of_lt (Nat.zero_le _) (World.block_lt_of_cell? W _ hg), hg⟩
  obtain ⟨n, _, rfl, r1⟩ := arg_int u1 (hval 1 _ _ rfl rfl) h1
  obtain ⟨m, _, rfl, r2⟩ := arg_int u1 (hval 2 _ _ rfl rfl) h2
  have key : ∃ (l : List Int) (d : D), Sl d l ∧ Rep (fun _ => 0) (sizeAt W) W d v0 := by
    rcases arg_ints u0 u1 (by kernel_rfl) (hval 0 _ _ rfl rfl) h0 with h | ⟨zs, _, _, h⟩
    · exact ⟨[], .nilsl, .inl ⟨rfl, rfl⟩, h⟩
    · exact ⟨zs, _, .inr ⟨_, rfl⟩, h⟩
  obtain ⟨l, d, hsl, r0⟩ := key
  have hcall := law_of (k10_ok (c := c0 Tryd.prog W) rfl hl) (f := 3) (args := [d, .int .i64 n, .int .i64 m]) (vs := #[v0, .int .i64 n, .int .i64 m]) (k10_law l d hsl n m []) rfl (fun i e hi => by
    rcases i with _ | _ | _ | i
    · simp at hi; subst hi; exact ⟨_, rfl, r0⟩
    · simp at hi; subst hi; exact ⟨_, rfl, r1⟩
    · simp at hi; subst hi; exact ⟨_, rfl, r2⟩
    · simp at hi)
  exact contract_of (tb := 4) rfl rfl (by kernel_rfl) u2 seatLaidOut (by kernel_rfl) hW hcall

end V

theorem fillSplits_holds : Rows.FillSplitsSaid :=
  OpenClaim.holds_of_wide 3 Tryd.f3 rfl rfl rfl rfl rfl rfl rfl ⟨rfl, rfl, rfl, rfl, rfl⟩ rfl rfl rfl rfl rfl (by kernel_rfl) Tryd.func3 (by kernel_rfl)
    (of_decide_eq_true (by kernel_rfl)) (by unfold Func.isWrapper; rw [if_neg (of_decide_eq_false (by kernel_rfl))]; exact ⟨rfl, rfl⟩)
    (fun os started H enc _ => V.law_lifted os started H enc)

theorem fillSplits_card_holds : Rows.FillSplitsCardSaid :=
  Claim7.holds_tied_plain_at .later [] [.handle] true (true, "6070dc67e626659e217730d5c24db3154a46060097918ee8ac79b56f1a8b24a1") true
    fillSplits_holds (fun _ h => by cases h) (by kernel_rfl) (fun _ h => by cases h) fillSplits_row_tie rfl ⟨rfl, rfl⟩ (by kernel_rfl) rfl
    (fun f fn hf hfn => by
      obtain rfl : f = 3 := Option.some.inj ((show Tryd.prog.funcNamed "warren/warrenlaw11.FillSplits" = some 3 by kernel_rfl).symm.trans hf) |>.symm
      obtain rfl : fn = Tryd.f3 := (Option.some.inj (Tryd.func3.symm.trans hfn)).symm
      exact ⟨by kernel_rfl, fun j t ht => by
        have hparams : Tryd.f3.params = #[22, 3, 3] := by kernel_rfl
        rw [hparams] at ht
        have h3 : t = 22 ∨ t = 3 := by
          rcases j with _ | _ | _ | j
          · exact .inl (by simpa using ht.symm)
          · exact .inr (by simpa using ht.symm)
          · exact .inr (by simpa using ht.symm)
          · simp at ht
        rcases h3 with rfl | rfl
        · exact (show Tryd.prog.wantsStandIn 22 = false by kernel_rfl)
        · exact (show Tryd.prog.wantsStandIn 3 = false by kernel_rfl)⟩)
    (by kernel_rfl)
#print axioms fillSplits_card_holds
end Go.Proofs.YtdmlojinmkcldaaDoor
