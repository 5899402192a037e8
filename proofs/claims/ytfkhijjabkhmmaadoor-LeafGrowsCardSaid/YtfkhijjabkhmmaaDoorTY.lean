/-
The types of this seat's program, as the interpreter takes them.
-/
import Derived.Test.YtfkhijjabkhmmaaDoorXP
import Derived.Test.YtfkhijjabkhmmaaDoorProg
import Derived.KernelRfl
namespace Go.Proofs.YtfkhijjabkhmmaaDoor.V
open Go Go.RowKit

noncomputable abbrev T := tabOf Tryd.prog
theorem T3 : T 3 = some ⟨.int .i64, 1, 8, (.int .i64 0), true⟩ := by kernel_rfl
theorem T4 : T 4 = some ⟨.bool, 1, 1, (.bool false), true⟩ := by kernel_rfl
theorem T5 : T 5 = some ⟨.int .u8, 1, 1, (.int .u8 0), true⟩ := by kernel_rfl
theorem T9 : T 9 = some ⟨.str, 1, 16, (.str []), true⟩ := by kernel_rfl
theorem T22 : T 22 = some ⟨.slice 26, 1, 24, (.vec 4 [] .exact), true⟩ := by kernel_rfl
theorem T23 : T 23 = some ⟨.slice 5, 1, 24, (.vec 1 [] .exact), true⟩ := by kernel_rfl
theorem T26 : T 26 = some ⟨.struct [(0, 9), (1, 9), (2, 3), (3, 3)], 4, 48, (.agg [(.str []), (.str []), (.int .i64 0), (.int .i64 0)]), true⟩ := by kernel_rfl
theorem T28 : T 28 = some ⟨.iface, 1, 16, .nili, false⟩ := by kernel_rfl
theorem T31 : T 31 = some ⟨.slice 45, 1, 24, (.vec 4 [] .exact), true⟩ := by kernel_rfl
theorem T45 : T 45 = some ⟨.struct [(0, 9), (1, 9), (2, 3), (3, 3)], 4, 48, (.agg [(.str []), (.str []), (.int .i64 0), (.int .i64 0)]), true⟩ := by kernel_rfl
theorem T49 : T 49 = some ⟨.int .u16, 1, 2, (.int .u16 0), true⟩ := by kernel_rfl
theorem T50 : T 50 = some ⟨.array 2 49, 2, 4, (.agg [(.int .u16 0), (.int .u16 0)]), true⟩ := by kernel_rfl
theorem T51 : T 51 = some ⟨.slice 59, 1, 24, (.vec 3 [] .exact), true⟩ := by kernel_rfl
theorem T52 : T 52 = some ⟨.ptr 113, 1, 8, .nilp, true⟩ := by kernel_rfl
theorem T54 : T 54 = some ⟨.struct [(0, 52), (1, 3)], 2, 16, (.agg [.nilp, (.int .i64 0)]), true⟩ := by kernel_rfl
theorem T55 : T 55 = some ⟨.slice 78, 1, 24, (.vec 2 [] .exact), true⟩ := by kernel_rfl
theorem T59 : T 59 = some ⟨.struct [(0, 3), (1, 9), (2, 9)], 3, 40, (.agg [(.int .i64 0), (.str []), (.str [])]), true⟩ := by kernel_rfl
theorem T73 : T 73 = some ⟨.slice 77, 1, 24, (.vec 2 [] .exact), true⟩ := by kernel_rfl
theorem T77 : T 77 = some ⟨.struct [(0, 9), (1, 9)], 2, 32, (.agg [(.str []), (.str [])]), true⟩ := by kernel_rfl
theorem T78 : T 78 = some ⟨.struct [(0, 9), (1, 9)], 2, 32, (.agg [(.str []), (.str [])]), true⟩ := by kernel_rfl
theorem T84 : T 84 = some ⟨.int .u64, 1, 8, (.int .u64 0), true⟩ := by kernel_rfl
theorem T85 : T 85 = some ⟨.int .i64, 1, 8, (.int .i64 0), true⟩ := by kernel_rfl
theorem T88 : T 88 = some ⟨.ptr 127, 1, 8, .nilp, true⟩ := by kernel_rfl
theorem T94 : T 94 = some ⟨.struct [(0, 23), (1, 4)], 2, 32, (.agg [(.vec 1 [] .exact), (.bool false)]), true⟩ := by kernel_rfl
theorem T106 : T 106 = some ⟨.func, 1, 8, .nilfn, true⟩ := by kernel_rfl
theorem T107 : T 107 = some ⟨.func, 1, 8, .nilfn, true⟩ := by kernel_rfl
theorem T109 : T 109 = some ⟨.slice 9, 1, 24, (.vec 1 [] .exact), true⟩ := by kernel_rfl
theorem T110 : T 110 = some ⟨.slice 52, 1, 24, (.vec 1 [] .exact), true⟩ := by kernel_rfl
theorem T111 : T 111 = some ⟨.slice 3, 1, 24, (.vec 1 [] .exact), true⟩ := by kernel_rfl
theorem T113 : T 113 = some ⟨.struct [(0, 73), (1, 109), (2, 110), (3, 3), (4, 111)], 5, 104, (.agg [(.vec 2 [] .exact), (.vec 1 [] .exact), (.vec 1 [] .exact), (.int .i64 0), (.vec 1 [] .exact)]), true⟩ := by kernel_rfl
theorem T116 : T 116 = some ⟨.struct [(0, 110), (1, 109)], 2, 48, (.agg [(.vec 1 [] .exact), (.vec 1 [] .exact)]), true⟩ := by kernel_rfl
theorem T127 : T 127 = some ⟨.struct [(0, 23), (1, 4)], 2, 32, (.agg [(.vec 1 [] .exact), (.bool false)]), true⟩ := by kernel_rfl
theorem T132 : T 132 = some ⟨.int .u64, 1, 8, (.int .u64 0), true⟩ := by kernel_rfl
theorem T153 : T 153 = some ⟨.func, 1, 8, .nilfn, true⟩ := by kernel_rfl
theorem T173 : T 173 = some ⟨.slice 73, 1, 24, (.vec 1 [] .exact), true⟩ := by kernel_rfl
theorem T181 : T 181 = some ⟨.slice 110, 1, 24, (.vec 1 [] .exact), true⟩ := by kernel_rfl
theorem T183 : T 183 = some ⟨.slice 109, 1, 24, (.vec 1 [] .exact), true⟩ := by kernel_rfl

/-- An error, or none, by its number. -/
def errD (n : Nat) : D := if n = 0 then .nili else .iface 85 (.int .i64 n)

theorem errD_zero : errD 0 = .nili := rfl
theorem errD_pos {n : Nat} (h : n ≠ 0) : errD n = .iface 85 (.int .i64 n) := if_neg h
theorem errD_cases (n : Nat) : (n = 0 ∧ errD n = .nili) ∨ (n ≠ 0 ∧ errD n = .iface 85 (.int .i64 n)) := by
  by_cases h : n = 0
  · exact .inl ⟨h, by subst h; rfl⟩
  · exact .inr ⟨h, if_neg h⟩
theorem errD_dem (n : Nat) : (errD n).demote = some (errD n) := by rcases errD_cases n with ⟨_, h⟩ | ⟨_, h⟩ <;> rw [h] <;> rfl
theorem errD_demC (n : Nat) : (errD n).demoteC = some (errD n) := by rcases errD_cases n with ⟨_, h⟩ | ⟨_, h⟩ <;> rw [h] <;> rfl
theorem errD_bor (n : Nat) (st : St) : st.borrow (errD n) = some (errD n) := by rcases errD_cases n with ⟨_, h⟩ | ⟨_, h⟩ <;> rw [h] <;> rfl
theorem errD_out (n : Nat) (τ : List Bool) : outD τ (errD n) = some (errD n, τ) := by rcases errD_cases n with ⟨_, h⟩ | ⟨_, h⟩ <;> rw [h] <;> rfl
theorem errD_outC (n : Nat) (τ : List Bool) : outC τ (errD n) = some (errD n, τ) := by rcases errD_cases n with ⟨_, h⟩ | ⟨_, h⟩ <;> rw [h] <;> rfl
theorem errD_ado (n : Nat) (τ : List Bool) : adopt τ (errD n) = (errD n, τ) := by rcases errD_cases n with ⟨_, h⟩ | ⟨_, h⟩ <;> rw [h] <;> rfl
theorem errD_adoC (n : Nat) (τ : List Bool) : adoptC τ (errD n) = (errD n, τ) := by rcases errD_cases n with ⟨_, h⟩ | ⟨_, h⟩ <;> rw [h] <;> rfl
theorem errD_adoR (n : Nat) (τ : List Bool) : adoptR τ (errD n) = (errD n, τ) := by rcases errD_cases n with ⟨_, h⟩ | ⟨_, h⟩ <;> rw [h] <;> rfl
theorem errD_plain (n : Nat) : (errD n).plain = true := by rcases errD_cases n with ⟨_, h⟩ | ⟨_, h⟩ <;> rw [h] <;> rfl
theorem errD_freeO (n : Nat) : (errD n).freeO = true := by rcases errD_cases n with ⟨_, h⟩ | ⟨_, h⟩ <;> rw [h] <;> rfl
theorem errD_freeR (n : Nat) : (errD n).freeR = true := by rcases errD_cases n with ⟨_, h⟩ | ⟨_, h⟩ <;> rw [h] <;> rfl
theorem errD_glob (n : Nat) : (errD n).global = true := by rcases errD_cases n with ⟨_, h⟩ | ⟨_, h⟩ <;> rw [h] <;> rfl
theorem errD_close (n : Nat) (st : St) : st.close (errD n) = errD n := by rcases errD_cases n with ⟨_, h⟩ | ⟨_, h⟩ <;> rw [h] <;> rfl
theorem errD_lsl (n : Nat) : (errD n).isLsl = false := by rcases errD_cases n with ⟨_, h⟩ | ⟨_, h⟩ <;> rw [h] <;> rfl
theorem errD_fresh (n : Nat) : (errD n).fresh1 = false := by rcases errD_cases n with ⟨_, h⟩ | ⟨_, h⟩ <;> rw [h] <;> rfl
/-- '== nil'. -/
theorem errD_eq (n : Nat) (lit : Bool) {t : TypeId} (ht : tdOf T t = .iface) : binV T .eql lit t (errD n) .nili = (if n = 0 then (bif lit then some (.bool true) else .none) else some (.bool false)) := by
  rcases errD_cases n with ⟨h0, h⟩ | ⟨h0, h⟩ <;> rw [h] <;> simp [binV, ht, eqOp, h0]
theorem errD_ne (n : Nat) (lit : Bool) {t : TypeId} (ht : tdOf T t = .iface) : binV T .neq lit t (errD n) .nili = (if n = 0 then (bif lit then some (.bool false) else .none) else some (.bool true)) := by
  rcases errD_cases n with ⟨h0, h⟩ | ⟨h0, h⟩ <;> rw [h] <;> simp [binV, ht, eqOp, h0]

/-! ### Lists of values of one kind -/
theorem ren_map {α : Type} {bs ts : List Nat} {f : α → D} (h : ∀ x, (f x).ren1 bs ts = f x) : ∀ l : List α, renL bs ts (l.map f) = l.map f
  | [] => rfl
  | x :: l => by simp only [List.map_cons, renL, h x, ren_map h l]
theorem toks_map {α : Type} {f : α → D} (h : ∀ x, (f x).tok1 = []) : ∀ l : List α, toksL (l.map f) = []
  | [] => rfl
  | x :: l => by simp only [List.map_cons, toksL, h x, toks_map h l, List.append_nil]
theorem boxes_map {α : Type} {f : α → D} (h : ∀ x, (f x).box1 = []) : ∀ l : List α, boxesL (l.map f) = []
  | [] => rfl
  | x :: l => by simp only [List.map_cons, boxesL, h x, boxes_map h l, List.append_nil]
theorem all_map {α : Type} {f : α → D} {p : D → Bool} (h : ∀ x, p (f x) = true) (l : List α) : (l.map f).all p = true := by
  rw [List.all_map]; exact List.all_eq_true.2 (fun x _ => h x)

end Go.Proofs.YtfkhijjabkhmmaaDoor.V
