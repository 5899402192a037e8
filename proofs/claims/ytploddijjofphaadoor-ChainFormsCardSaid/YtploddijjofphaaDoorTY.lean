/-
The types of this seat's program, as the interpreter takes them.
-/
import Derived.Test.YtploddijjofphaaDoorXP
import Derived.Test.YtploddijjofphaaDoorProg
import Derived.KernelRfl
namespace Go.Proofs.YtploddijjofphaaDoor.V
open Go Go.RowKit

noncomputable abbrev T := tabOf Tryd.prog
theorem T2 : T 2 = some ⟨.int .i64, 1, 8, (.int .i64 0), true⟩ := by kernel_rfl
theorem T3 : T 3 = some ⟨.int .i64, 1, 8, (.int .i64 0), true⟩ := by kernel_rfl
theorem T4 : T 4 = some ⟨.bool, 1, 1, (.bool false), true⟩ := by kernel_rfl
theorem T5 : T 5 = some ⟨.int .u8, 1, 1, (.int .u8 0), true⟩ := by kernel_rfl
theorem T9 : T 9 = some ⟨.str, 1, 16, (.str []), true⟩ := by kernel_rfl
theorem T23 : T 23 = some ⟨.struct [(0, 9), (1, 5)], 2, 24, (.agg [(.str []), (.int .u8 0)]), true⟩ := by kernel_rfl
theorem T24 : T 24 = some ⟨.array 2 9, 2, 32, (.agg [(.str []), (.str [])]), true⟩ := by kernel_rfl
theorem T26 : T 26 = some ⟨.struct [(0, 9), (1, 5)], 2, 24, (.agg [(.str []), (.int .u8 0)]), true⟩ := by kernel_rfl
theorem T28 : T 28 = some ⟨.struct [(0, 9), (1, 9), (2, 4)], 3, 40, (.agg [(.str []), (.str []), (.bool false)]), true⟩ := by kernel_rfl
theorem T30 : T 30 = some ⟨.iface, 1, 16, .nili, false⟩ := by kernel_rfl
theorem T38 : T 38 = some ⟨.struct [(0, 9), (1, 9), (2, 4)], 3, 40, (.agg [(.str []), (.str []), (.bool false)]), true⟩ := by kernel_rfl
theorem T44 : T 44 = some ⟨.array 3 23, 6, 72, (.agg [(.str []), (.int .u8 0), (.str []), (.int .u8 0), (.str []), (.int .u8 0)]), true⟩ := by kernel_rfl
theorem T49 : T 49 = some ⟨.int .u64, 1, 8, (.int .u64 0), true⟩ := by kernel_rfl
theorem T62 : T 62 = some ⟨.int .u64, 1, 8, (.int .u64 0), true⟩ := by kernel_rfl
theorem T64 : T 64 = some ⟨.slice 5, 1, 24, (.vec 1 [] .exact), true⟩ := by kernel_rfl
theorem T65 : T 65 = some ⟨.slice 9, 1, 24, (.vec 1 [] .exact), true⟩ := by kernel_rfl
theorem T85 : T 85 = some ⟨.int .i64, 1, 8, (.int .i64 0), true⟩ := by kernel_rfl
theorem T95 : T 95 = some ⟨.func, 1, 8, .nilfn, true⟩ := by kernel_rfl
theorem T112 : T 112 = some ⟨.func, 1, 8, .nilfn, true⟩ := by kernel_rfl

/-- An error, or none, by its number. -/
def errD (n : Nat) : D := if n = 0 then .nili else .iface 85 (.int .i64 n)

theorem errD_zero : errD 0 = .nili := rfl
theorem errD_pos {n : Nat} (h : n ≠ 0) : errD n = .iface 85 (.int .i64 n) := if_neg h
theorem errD_cases (n : Nat) : (n = 0 ∧ errD n = .nili) ∨ (n ≠ 0 ∧ errD n = .iface 85 (.int .i64 n)) := by
  by_cases h : n = 0
  · exact .inl ⟨h, by subst h; rfl⟩
  · exact .inr ⟨h, if_neg h⟩
theorem errD_dem (n : Nat) : (errD n).demote = some (errD n) := by rcases errD_cases n with ⟨_, h⟩ | ⟨_, h⟩ <;> rw [h] <;> rfl
theorem errD_demC (n : Nat) : (errD n).demoteC = some (errD n) := by rcases errD_cases n with ⟨_, h⟩ | ⟨_, h⟩ <;> rw [h] <;> rfl
theorem errD_bor (n : Nat) (st : St) : st.borrow (errD n) = some (errD n) := by rcases errD_cases n with ⟨_, h⟩ | ⟨_, h⟩ <;> rw [h] <;> rfl
theorem errD_out (n : Nat) (τ : List Bool) : outD τ (errD n) = some (errD n, τ) := by rcases errD_cases n with ⟨_, h⟩ | ⟨_, h⟩ <;> rw [h] <;> rfl
theorem errD_outC (n : Nat) (τ : List Bool) : outC τ (errD n) = some (errD n, τ) := by rcases errD_cases n with ⟨_, h⟩ | ⟨_, h⟩ <;> rw [h] <;> rfl
theorem errD_ado (n : Nat) (τ : List Bool) : adopt τ (errD n) = (errD n, τ) := by rcases errD_cases n with ⟨_, h⟩ | ⟨_, h⟩ <;> rw [h] <;> rfl
theorem errD_adoC (n : Nat) (τ : List Bool) : adoptC τ (errD n) = (errD n, τ) := by rcases errD_cases n with ⟨_, h⟩ | ⟨_, h⟩ <;> rw [h] <;> rfl
theorem errD_adoR (n : Nat) (τ : List Bool) : adoptR τ (errD n) = (errD n, τ) := by rcases errD_cases n with ⟨_, h⟩ | ⟨_, h⟩ <;> rw [h] <;> rfl
theorem errD_plain (n : Nat) : (errD n).plain = true := by rcases errD_cases n with ⟨_, h⟩ | ⟨_, h⟩ <;> rw [h] <;> rfl
theorem errD_close (n : Nat) (st : St) : st.close (errD n) = errD n := by rcases errD_cases n with ⟨_, h⟩ | ⟨_, h⟩ <;> rw [h] <;> rfl
theorem errD_lsl (n : Nat) : (errD n).isLsl = false := by rcases errD_cases n with ⟨_, h⟩ | ⟨_, h⟩ <;> rw [h] <;> rfl
theorem errD_fresh (n : Nat) : (errD n).fresh1 = false := by rcases errD_cases n with ⟨_, h⟩ | ⟨_, h⟩ <;> rw [h] <;> rfl
/-- '== nil'. -/
theorem errD_eq (n : Nat) (lit : Bool) {t : TypeId} (ht : tdOf T t = .iface) : binV T .eql lit t (errD n) .nili = (if n = 0 then (bif lit then some (.bool true) else .none) else some (.bool false)) := by
  rcases errD_cases n with ⟨h0, h⟩ | ⟨h0, h⟩ <;> rw [h] <;> simp [binV, ht, eqOp, h0]
theorem errD_ne (n : Nat) (lit : Bool) {t : TypeId} (ht : tdOf T t = .iface) : binV T .neq lit t (errD n) .nili = (if n = 0 then (bif lit then some (.bool false) else .none) else some (.bool true)) := by
  rcases errD_cases n with ⟨h0, h⟩ | ⟨h0, h⟩ <;> rw [h] <;> simp [binV, ht, eqOp, h0]

/-! ### Lists of values of one kind -/
theorem ren_map {α : Type} {bs ts : List Nat} {f : α → D} (h : ∀ x, (f x).ren1 bs ts = f x) : ∀ l : List α, renL bs ts (l.map f) = l.map f
  | [] => rfl
  | x :: l => by simp only [List.map_cons, renL, h x, ren_map h l]
theorem toks_map {α : Type} {f : α → D} (h : ∀ x, (f x).tok1 = []) : ∀ l : List α, toksL (l.map f) = []
  | [] => rfl
  | x :: l => by simp only [List.map_cons, toksL, h x, toks_map h l, List.append_nil]
theorem boxes_map {α : Type} {f : α → D} (h : ∀ x, (f x).box1 = []) : ∀ l : List α, boxesL (l.map f) = []
  | [] => rfl
  | x :: l => by simp only [List.map_cons, boxesL, h x, boxes_map h l, List.append_nil]
theorem all_map {α : Type} {f : α → D} {p : D → Bool} (h : ∀ x, p (f x) = true) (l : List α) : (l.map f).all p = true := by
  rw [List.all_map]; exact List.all_eq_true.2 (fun x _ => h x)

end Go.Proofs.YtploddijjofphaaDoor.V
