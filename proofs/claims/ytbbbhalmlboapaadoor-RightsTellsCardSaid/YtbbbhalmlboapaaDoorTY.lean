/-
The types of this seat's program, as the interpreter takes them.
-/
import Derived.Test.YtbbbhalmlboapaaDoorXP
import Derived.Test.YtbbbhalmlboapaaDoorProg
import Derived.KernelRfl
namespace Go.Proofs.YtbbbhalmlboapaaDoor.V
open Go Go.RowKit

noncomputable abbrev T := tabOf Tryd.prog
theorem T3 : T 3 = some ⟨.int .i64, 1, 8, (.int .i64 0), true⟩ := by kernel_rfl
theorem T4 : T 4 = some ⟨.bool, 1, 1, (.bool false), true⟩ := by kernel_rfl
theorem T5 : T 5 = some ⟨.int .u8, 1, 1, (.int .u8 0), true⟩ := by kernel_rfl
theorem T9 : T 9 = some ⟨.str, 1, 16, (.str []), true⟩ := by kernel_rfl
theorem T24 : T 24 = some ⟨.iface, 1, 16, .nili, false⟩ := by kernel_rfl
theorem T33 : T 33 = some ⟨.slice 5, 1, 24, (.vec 1 [] .exact), true⟩ := by kernel_rfl
theorem T39 : T 39 = some ⟨.int .u16, 1, 2, (.int .u16 0), true⟩ := by kernel_rfl
theorem T40 : T 40 = some ⟨.array 16 39, 16, 32, (.agg (nums .u16 16 (fun _ => 0))), true⟩ := by kernel_rfl
theorem T41 : T 41 = some ⟨.array 2 3, 2, 16, (.agg [(.int .i64 0), (.int .i64 0)]), true⟩ := by kernel_rfl
theorem T42 : T 42 = some ⟨.array 16 39, 16, 32, (.agg (nums .u16 16 (fun _ => 0))), true⟩ := by kernel_rfl
theorem T49 : T 49 = some ⟨.array 16 4, 16, 16, (.agg (bools 16 (fun _ => false))), true⟩ := by kernel_rfl
theorem T57 : T 57 = some ⟨.array 16 49, 256, 256, (.agg (bools 256 (fun _ => false))), true⟩ := by kernel_rfl
theorem T59 : T 59 = some ⟨.int .u64, 1, 8, (.int .u64 0), true⟩ := by kernel_rfl
theorem T62 : T 62 = some ⟨.slice 63, 1, 24, (.vec 2 [] .exact), true⟩ := by kernel_rfl
theorem T63 : T 63 = some ⟨.array 2 5, 2, 2, (.agg [(.int .u8 0), (.int .u8 0)]), true⟩ := by kernel_rfl
theorem T66 : T 66 = some ⟨.int .u64, 1, 8, (.int .u64 0), true⟩ := by kernel_rfl
theorem T67 : T 67 = some ⟨.array 16 66, 16, 128, (.agg (nums .u64 16 (fun _ => 0))), true⟩ := by kernel_rfl
theorem T68 : T 68 = some ⟨.array 1024 4, 1024, 1024, (.agg (bools 1024 (fun _ => false))), true⟩ := by kernel_rfl
theorem T70 : T 70 = some ⟨.slice 3, 1, 24, (.vec 1 [] .exact), true⟩ := by kernel_rfl
theorem T75 : T 75 = some ⟨.array 16 66, 16, 128, (.agg (nums .u64 16 (fun _ => 0))), true⟩ := by kernel_rfl
theorem T81 : T 81 = some ⟨.int .i16, 1, 2, (.int .i16 0), true⟩ := by kernel_rfl
theorem T102 : T 102 = some ⟨.int .i64, 1, 8, (.int .i64 0), true⟩ := by kernel_rfl
theorem T111 : T 111 = some ⟨.func, 1, 8, .nilfn, true⟩ := by kernel_rfl
theorem T113 : T 113 = some ⟨.int .u32, 1, 4, (.int .u32 0), true⟩ := by kernel_rfl
theorem T118 : T 118 = some ⟨.ptr 120, 1, 8, .nilp, true⟩ := by kernel_rfl
theorem T120 : T 120 = some ⟨.struct [(0, 118), (1, 33)], 2, 32, (.agg [.nilp, (.vec 1 [] .exact)]), true⟩ := by kernel_rfl
theorem T123 : T 123 = some ⟨.other, 1, 8, .nilp, true⟩ := by kernel_rfl
theorem T138 : T 138 = some ⟨.ptr 5, 1, 8, .nilp, true⟩ := by kernel_rfl
theorem T155 : T 155 = some ⟨.array 16 113, 16, 64, (.agg (nums .u32 16 (fun _ => 0))), true⟩ := by kernel_rfl

/-- An error, or none, by its number. -/
def errD (n : Nat) : D := if n = 0 then .nili else .iface 102 (.int .i64 n)

theorem errD_zero : errD 0 = .nili := rfl
theorem errD_pos {n : Nat} (h : n ≠ 0) : errD n = .iface 102 (.int .i64 n) := if_neg h
theorem errD_cases (n : Nat) : (n = 0 ∧ errD n = .nili) ∨ (n ≠ 0 ∧ errD n = .iface 102 (.int .i64 n)) := by
  by_cases h : n = 0
  · exact .inl ⟨h, by subst h; rfl⟩
  · exact .inr ⟨h, if_neg h⟩
theorem errD_dem (n : Nat) : (errD n).demote = some (errD n) := by rcases errD_cases n with ⟨_, h⟩ | ⟨_, h⟩ <;> rw [h] <;> rfl
theorem errD_demC (n : Nat) : (errD n).demoteC = some (errD n) := by rcases errD_cases n with ⟨_, h⟩ | ⟨_, h⟩ <;> rw [h] <;> rfl
theorem errD_bor (n : Nat) (st : St) : st.borrow (errD n) = some (errD n) := by rcases errD_cases n with ⟨_, h⟩ | ⟨_, h⟩ <;> rw [h] <;> rfl
theorem errD_out (n : Nat) (τ : List Bool) : outD τ (errD n) = some (errD n, τ) := by rcases errD_cases n with ⟨_, h⟩ | ⟨_, h⟩ <;> rw [h] <;> rfl
theorem errD_outC (n : Nat) (τ : List Bool) : outC τ (errD n) = some (errD n, τ) := by rcases errD_cases n with ⟨_, h⟩ | ⟨_, h⟩ <;> rw [h] <;> rfl
theorem errD_ado (n : Nat) (τ : List Bool) : adopt τ (errD n) = (errD n, τ) := by rcases errD_cases n with ⟨_, h⟩ | ⟨_, h⟩ <;> rw [h] <;> rfl
theorem errD_adoC (n : Nat) (τ : List Bool) : adoptC τ (errD n) = (errD n, τ) := by rcases errD_cases n with ⟨_, h⟩ | ⟨_, h⟩ <;> rw [h] <;> rfl
theorem errD_adoR (n : Nat) (τ : List Bool) : adoptR τ (errD n) = (errD n, τ) := by rcases errD_cases n with ⟨_, h⟩ | ⟨_, h⟩ <;> rw [h] <;> rfl
theorem errD_plain (n : Nat) : (errD n).plain = true := by rcases errD_cases n with ⟨_, h⟩ | ⟨_, h⟩ <;> rw [h] <;> rfl
theorem errD_freeO (n : Nat) : (errD n).freeO = true := by rcases errD_cases n with ⟨_, h⟩ | ⟨_, h⟩ <;> rw [h] <;> rfl
theorem errD_freeR (n : Nat) : (errD n).freeR = true := by rcases errD_cases n with ⟨_, h⟩ | ⟨_, h⟩ <;> rw [h] <;> rfl
theorem errD_glob (n : Nat) : (errD n).global = true := by rcases errD_cases n with ⟨_, h⟩ | ⟨_, h⟩ <;> rw [h] <;> rfl
theorem errD_close (n : Nat) (st : St) : st.close (errD n) = errD n := by rcases errD_cases n with ⟨_, h⟩ | ⟨_, h⟩ <;> rw [h] <;> rfl
theorem errD_lsl (n : Nat) : (errD n).isLsl = false := by rcases errD_cases n with ⟨_, h⟩ | ⟨_, h⟩ <;> rw [h] <;> rfl
theorem errD_fresh (n : Nat) : (errD n).fresh1 = false := by rcases errD_cases n with ⟨_, h⟩ | ⟨_, h⟩ <;> rw [h] <;> rfl
/-- '== nil'. -/
theorem errD_eq (n : Nat) (lit : Bool) {t : TypeId} (ht : tdOf T t = .iface) : binV T .eql lit t (errD n) .nili = (if n = 0 then (bif lit then some (.bool true) else .none) else some (.bool false)) := by
  rcases errD_cases n with ⟨h0, h⟩ | ⟨h0, h⟩ <;> rw [h] <;> simp [binV, ht, eqOp, h0]
theorem errD_ne (n : Nat) (lit : Bool) {t : TypeId} (ht : tdOf T t = .iface) : binV T .neq lit t (errD n) .nili = (if n = 0 then (bif lit then some (.bool false) else .none) else some (.bool true)) := by
  rcases errD_cases n with ⟨h0, h⟩ | ⟨h0, h⟩ <;> rw [h] <;> simp [binV, ht, eqOp, h0]

/-! ### Lists of values of one kind -/
theorem ren_map {α : Type} {bs ts : List Nat} {f : α → D} (h : ∀ x, (f x).ren1 bs ts = f x) : ∀ l : List α, renL bs ts (l.map f) = l.map f
  | [] => rfl
  | x :: l => by simp only [List.map_cons, renL, h x, ren_map h l]
theorem toks_map {α : Type} {f : α → D} (h : ∀ x, (f x).tok1 = []) : ∀ l : List α, toksL (l.map f) = []
  | [] => rfl
  | x :: l => by simp only [List.map_cons, toksL, h x, toks_map h l, List.append_nil]
theorem boxes_map {α : Type} {f : α → D} (h : ∀ x, (f x).box1 = []) : ∀ l : List α, boxesL (l.map f) = []
  | [] => rfl
  | x :: l => by simp only [List.map_cons, boxesL, h x, boxes_map h l, List.append_nil]
theorem all_map {α : Type} {f : α → D} {p : D → Bool} (h : ∀ x, p (f x) = true) (l : List α) : (l.map f).all p = true := by
  rw [List.all_map]; exact List.all_eq_true.2 (fun x _ => h x)

end Go.Proofs.YtbbbhalmlboapaaDoor.V
