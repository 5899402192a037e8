/-
Layer 27: the callees, all at once; arguments.
-/
import Derived.Test.YtploddijjofphaaDoorSF
import Derived.Test.YtploddijjofphaaDoorNE
namespace Go.Proofs.YtploddijjofphaaDoor.V
open Go Go.RowKit
set_option linter.unusedSimpArgs false
set_option linter.unusedVariables false

theorem tabOk {c : Cx} (hP : c.P = Tryd.prog) : TabOk c.P T := by rw [hP]; exact tabOf_ok _

noncomputable def tab27 : FuncId → Option FI
  | 14 => some fi14
  | 15 => some fi15
  | 17 => some fi17
  | 18 => some fi18
  | 19 => some fi19
  | 20 => some fi20
  | 21 => some fi21
  | 22 => some fi22
  | 23 => some fi23
  | 24 => some fi24
  | 27 => some fi27
  | 25 => some fi25
  | 26 => some fi26
  | 51 => some fi51
  | 68 => some fi68
  | 63 => some fi63
  | 56 => some fi56
  | 59 => some fi59
  | 61 => some fi61
  | 58 => some fi58
  | 74 => some fi74
  | 60 => some fi60
  | 62 => some fi62
  | 64 => some fi64
  | 75 => some fi75
  | 13 => some fi13
  | 3 => some fi3
  | 4 => some fi4
  | 10 => some fi10
  | _ => .none

theorem tab27_ok (f : FuncId) (fi : FI) (h : tab27 f = some fi) : FnOk Tryd.prog f fi := by
  unfold tab27 at h
  split at h <;> first | (injection h with h; subst h; first | exact ok14 | exact ok15 | exact ok17 | exact ok18 | exact ok19 | exact ok20 | exact ok21 | exact ok22 | exact ok23 | exact ok24 | exact ok27 | exact ok25 | exact ok26 | exact ok51 | exact ok68 | exact ok63 | exact ok56 | exact ok59 | exact ok61 | exact ok58 | exact ok74 | exact ok60 | exact ok62 | exact ok64 | exact ok75 | exact ok13 | exact ok3 | exact ok4 | exact ok10) | cases h

noncomputable abbrev C27 : Callees := limC T prims tab27

theorem C27_ok {c : Cx} (hP : c.P = Tryd.prog) (hl : laidAt c) : CallOK c C27 := limC_ok (tabOk hP) (by rw [hP]; exact seatMixed) (prims_ok hP hl) (fun f fi h => by rw [hP]; exact tab27_ok f fi h)

theorem has27 {f : FuncId} {fi : FI} (h : tab27 f = some fi) (h1 : Nat.beq 16 f = false) : Has T C27 f fi := limC_has h (fun args B => prims_none h1 args B)

theorem known27 : Known27 C27 := by
  repeat' constructor
  all_goals first
    | exact has27 rfl rfl
    | exact fun n B => limC_prim (prims_num n B)

set_option maxRecDepth 100000 in
theorem arg_scope {W : World} {r : Reach} {b0 : Nat} {v : Value} (hval : Value.okWide Tryd.prog W r b0 23 v) : ∃ (p : List UInt8) (s : Nat), s < 256 ∧ Rep [] (sizeAt W) W (.agg [.str p, .int .u8 (s : Nat)]) v := by
  have g1 : isAggB Tryd.prog 23 = true := by kernel_rfl
  have g2 : Tryd.prog.cellTypes Tryd.prog.depth 23 = some [9, 5] := by kernel_rfl
  obtain ⟨cs, rfl, hsz, hc⟩ := arg_agg g1 g2 hval
  have hs3 : cs.size = 2 := hsz.trans (by kernel_rfl)
  obtain ⟨u0, e0, c0⟩ := hc 0 _ (Array.getElem?_eq_getElem (by omega))
  injection e0 with e0; subst e0
  obtain ⟨p, x0⟩ := cell_str (by kernel_rfl : Tryd.prog.underlying 9 = some .string) c0
  obtain ⟨u1, e1, c1⟩ := hc 1 _ (Array.getElem?_eq_getElem (by omega))
  injection e1 with e1; subst e1
  obtain ⟨s, x1, y1⟩ := cell_int (by kernel_rfl : Tryd.prog.underlying 5 = some (.int .u8)) c1
  simp [IntKind.has, IntKind.min, IntKind.max, IntKind.bits, IntKind.signed] at y1
  refine ⟨p.data.toList, s.toNat, by omega, rep_agg (by simp [hs3]) (fun i d hi => ?_)⟩
  rcases i with _ | _ | i
  · obtain rfl := Option.some.inj hi; exact ⟨_, Array.getElem?_eq_getElem (by omega), by rw [x0]; exact .str p⟩
  · obtain rfl := Option.some.inj hi; exact ⟨_, Array.getElem?_eq_getElem (by omega), by rw [x1, show ((s.toNat : Nat) : Int) = s by omega]; exact .int _ _⟩
  · simp at hi
set_option maxRecDepth 100000 in
theorem arg_two {W : World} {r : Reach} {b0 : Nat} {v : Value} (hval : Value.okWide Tryd.prog W r b0 24 v) : ∃ (a : List UInt8) (b : List UInt8), Rep [] (sizeAt W) W (.agg [.str a, .str b]) v := by
  have g1 : isAggB Tryd.prog 24 = true := by kernel_rfl
  have g2 : Tryd.prog.cellTypes Tryd.prog.depth 24 = some [9, 9] := by kernel_rfl
  obtain ⟨cs, rfl, hsz, hc⟩ := arg_agg g1 g2 hval
  have hs3 : cs.size = 2 := hsz.trans (by kernel_rfl)
  obtain ⟨u0, e0, c0⟩ := hc 0 _ (Array.getElem?_eq_getElem (by omega))
  injection e0 with e0; subst e0
  obtain ⟨a, x0⟩ := cell_str (by kernel_rfl : Tryd.prog.underlying 9 = some .string) c0
  obtain ⟨u1, e1, c1⟩ := hc 1 _ (Array.getElem?_eq_getElem (by omega))
  injection e1 with e1; subst e1
  obtain ⟨b, x1⟩ := cell_str (by kernel_rfl : Tryd.prog.underlying 9 = some .string) c1
  refine ⟨a.data.toList, b.data.toList, rep_agg (by simp [hs3]) (fun i d hi => ?_)⟩
  rcases i with _ | _ | i
  · obtain rfl := Option.some.inj hi; exact ⟨_, Array.getElem?_eq_getElem (by omega), by rw [x0]; exact .str a⟩
  · obtain rfl := Option.some.inj hi; exact ⟨_, Array.getElem?_eq_getElem (by omega), by rw [x1]; exact .str b⟩
  · simp at hi
set_option maxRecDepth 100000 in
theorem arg_scopes {W : World} {r : Reach} {b0 : Nat} {v : Value} (hval : Value.okWide Tryd.prog W r b0 44 v) : ∃ (p : List UInt8) (s : Nat) (q : List UInt8) (t : Nat) (w : List UInt8) (u : Nat), s < 256 ∧ t < 256 ∧ u < 256 ∧ Rep [] (sizeAt W) W (.agg [.str p, .int .u8 (s : Nat), .str q, .int .u8 (t : Nat), .str w, .int .u8 (u : Nat)]) v := by
  have g1 : isAggB Tryd.prog 44 = true := by kernel_rfl
  have g2 : Tryd.prog.cellTypes Tryd.prog.depth 44 = some [9, 5, 9, 5, 9, 5] := by kernel_rfl
  obtain ⟨cs, rfl, hsz, hc⟩ := arg_agg g1 g2 hval
  have hs3 : cs.size = 6 := hsz.trans (by kernel_rfl)
  obtain ⟨u0, e0, c0⟩ := hc 0 _ (Array.getElem?_eq_getElem (by omega))
  injection e0 with e0; subst e0
  obtain ⟨p, x0⟩ := cell_str (by kernel_rfl : Tryd.prog.underlying 9 = some .string) c0
  obtain ⟨u1, e1, c1⟩ := hc 1 _ (Array.getElem?_eq_getElem (by omega))
  injection e1 with e1; subst e1
  obtain ⟨s, x1, y1⟩ := cell_int (by kernel_rfl : Tryd.prog.underlying 5 = some (.int .u8)) c1
  simp [IntKind.has, IntKind.min, IntKind.max, IntKind.bits, IntKind.signed] at y1
  obtain ⟨u2, e2, c2⟩ := hc 2 _ (Array.getElem?_eq_getElem (by omega))
  injection e2 with e2; subst e2
  obtain ⟨q, x2⟩ := cell_str (by kernel_rfl : Tryd.prog.underlying 9 = some .string) c2
  obtain ⟨u3, e3, c3⟩ := hc 3 _ (Array.getElem?_eq_getElem (by omega))
  injection e3 with e3; subst e3
  obtain ⟨t, x3, y3⟩ := cell_int (by kernel_rfl : Tryd.prog.underlying 5 = some (.int .u8)) c3
  simp [IntKind.has, IntKind.min, IntKind.max, IntKind.bits, IntKind.signed] at y3
  obtain ⟨u4, e4, c4⟩ := hc 4 _ (Array.getElem?_eq_getElem (by omega))
  injection e4 with e4; subst e4
  obtain ⟨w, x4⟩ := cell_str (by kernel_rfl : Tryd.prog.underlying 9 = some .string) c4
  obtain ⟨u5, e5, c5⟩ := hc 5 _ (Array.getElem?_eq_getElem (by omega))
  injection e5 with e5; subst e5
  obtain ⟨u, x5, y5⟩ := cell_int (by kernel_rfl : Tryd.prog.underlying 5 = some (.int .u8)) c5
  simp [IntKind.has, IntKind.min, IntKind.max, IntKind.bits, IntKind.signed] at y5
  refine ⟨p.data.toList, s.toNat, q.data.toList, t.toNat, w.data.toList, u.toNat, by omega, by omega, by omega, rep_agg (by simp [hs3]) (fun i d hi => ?_)⟩
  rcases i with _ | _ | _ | _ | _ | _ | i
  · obtain rfl := Option.some.inj hi; exact ⟨_, Array.getElem?_eq_getElem (by omega), by rw [x0]; exact .str p⟩
  · obtain rfl := Option.some.inj hi; exact ⟨_, Array.getElem?_eq_getElem (by omega), by rw [x1, show ((s.toNat : Nat) : Int) = s by omega]; exact .int _ _⟩
  · obtain rfl := Option.some.inj hi; exact ⟨_, Array.getElem?_eq_getElem (by omega), by rw [x2]; exact .str q⟩
  · obtain rfl := Option.some.inj hi; exact ⟨_, Array.getElem?_eq_getElem (by omega), by rw [x3, show ((t.toNat : Nat) : Int) = t by omega]; exact .int _ _⟩
  · obtain rfl := Option.some.inj hi; exact ⟨_, Array.getElem?_eq_getElem (by omega), by rw [x4]; exact .str w⟩
  · obtain rfl := Option.some.inj hi; exact ⟨_, Array.getElem?_eq_getElem (by omega), by rw [x5, show ((u.toNat : Nat) : Int) = u by omega]; exact .int _ _⟩
  · simp at hi

end Go.Proofs.YtploddijjofphaaDoor.V
