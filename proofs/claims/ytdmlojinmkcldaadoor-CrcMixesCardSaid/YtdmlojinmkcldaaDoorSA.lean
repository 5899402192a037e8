/-
The seat's own facts: what the condition on errors.errorType gives; a world that meets it.
-/
import Derived.Test.YtdmlojinmkcldaaDoorWI
import Derived.Test.YtdmlojinmkcldaaDoorRows
import Derived.Test.YtdmlojinmkcldaaDoorChecked
import Derived.ChangeSame
import Derived.ChangeVars
import Derived.JoinedOf
import Derived.RowKitTokens
import Derived.LaidLaws
import Derived.LaidHandle
import Derived.Stop.Joined
import Derived.SevenTiedAt
import Derived.KernelRfl
namespace Go.Proofs.YtdmlojinmkcldaaDoor
open Go.ChangeShapes Go.WideShapes Go.RowKit
namespace V

theorem seatOwn : ownKnob Tryd.prog.godebug = none := by kernel_rfl
theorem seatEt : Tryd.prog.globalNamed "errors.errorType" = some 0 := by kernel_rfl
theorem seatRt : (Tryd.prog.cutTypes.find? (·.1 == "internal/reflectlite.rtype")).map (·.2) = some 101 := by kernel_rfl
theorem seatRow : ((List.range 143).filter fun t => Tryd.prog.rowNamed t [101, 114, 114, 111, 114]) = [25] := by kernel_rfl
theorem seatSize : Tryd.prog.types.size = 143 := by kernel_rfl
theorem seatLaidOut : laidOutB Tryd.prog = true := by kernel_rfl
theorem seatMixed : Tryd.prog.follows .mixedOrders = true := Tryd.checked.mixed

abbrev seatLaid : List (String × DataW Unit) := [("errors.errorType", Rows.laid_errors_errorType)]

/-- The variable's one cell. -/
theorem handle_of_laid {W : World} (h : laidMetH Tryd.prog seatLaid W) : W.cell? ⟨0, 0, none⟩ = some (.iface 101 (.agg #[.pointer (some ⟨1, 25, none⟩)])) := by
  have h' : laidMet Tryd.prog [] W ∧ handlesMet Tryd.prog seatLaid W := h
  obtain ⟨name, u, ty, e1, e2, e3, e4, e5⟩ := h'.2 _ (List.mem_singleton.2 rfl)
  have en : name = [101, 114, 114, 111, 114] := (Option.some.inj e1).symm
  subst en
  obtain rfl := Option.some.inj (seatRt.symm.trans e2)
  have hm : ty ∈ (List.range 143).filter fun t => Tryd.prog.rowNamed t [101, 114, 114, 111, 114] := List.mem_filter.2 ⟨List.mem_range.2 (by rw [← seatSize]; exact e3), e4⟩
  rw [seatRow] at hm
  obtain rfl := List.mem_singleton.1 hm
  have hh : typeHandle Tryd.prog 25 = .pointer (some ⟨1, 25, none⟩) := by kernel_rfl
  rw [hh] at e5
  simpa using World.var?_cell seatEt e5 0

/-- A world that meets the condition: the settled one, the variable's cell laid. -/
noncomputable def laidWorld (os : Os) : World :=
  let w0 := World.holding Tryd.prog os ⟨#[], #[], []⟩
  { w0 with heap := w0.heap.modify 0 fun
      | .cells _ t frozen => .cells #[.iface 101 (.agg #[.pointer (some ⟨1, 25, none⟩)])] t frozen
      | o => o }

theorem laidWorld_met (os : Os) (args : Array Value) : laidMetH Tryd.prog seatLaid ((laidWorld os).forCall (fun _ _ => 0) ⟨#[], args, []⟩).memory :=
  laidMetH_of_parts (laidMet_nil _ _) (by kernel_rfl)

/-- One function more is known. -/
theorem CallOK.more {c : Cx} (hP : c.P = Tryd.prog) {C : Callees} (hC : CallOK c C) {f : FuncId} {fi : FI} (hf : FnOk Tryd.prog f fi) : CallOK c (V.upd C f (runV (tabOf Tryd.prog) C fi)) := by
  have hT : TabOk c.P (tabOf Tryd.prog) := by rw [hP]; exact tabOf_ok _
  exact hC.upd (T := tabOf Tryd.prog) hT (fun w s => drawOK (c := c.at_ w s) (by show c.P.follows .mixedOrders = true; rw [hP]; exact seatMixed) (tabOk_at hT w s) (callOK_at hC w s)) (by rw [hP]; exact hf) (fun _ _ _ _ h => h)

theorem upd_hit {C : Callees} {f : FuncId} {h : List D → Hp → Option (D × Hp)} {args : List D} {B : Hp} {r : Option (D × Hp)} (e : h args B = r) : V.upd C f h f args B = r := by
  unfold V.upd
  rw [Nat.beq_refl]; exact e

theorem upd_skip {C : Callees} {f f' : FuncId} {h : List D → Hp → Option (D × Hp)} {args : List D} {B : Hp} {r : Option (D × Hp)} (hne : Nat.beq f f' = false) (e : C f' args B = r) : V.upd C f h f' args B = r := by
  unfold V.upd
  rw [hne]; exact e

theorem standIns {fn : Func} (h : (fn.params.toList.all fun t => !Tryd.prog.wantsStandIn t) = true) (j : Nat) (t : TypeId) (ht : fn.params[j]? = some t) : Tryd.prog.wantsStandIn t = false := by
  have := List.all_eq_true.1 h t (by rw [← Array.getElem?_toList] at ht; exact List.mem_of_getElem? ht)
  simpa using this

end V
end Go.Proofs.YtdmlojinmkcldaaDoor
