/-
The types of this seat's program, as the interpreter takes them.
-/
import Derived.Test.YtnhelkclkdfndaaDoorXP
import Derived.Test.YtnhelkclkdfndaaDoorProg
import Derived.KernelRfl
namespace Go.Proofs.YtnhelkclkdfndaaDoor.V
open Go Go.RowKit

noncomputable abbrev T := tabOf Tryd.prog
theorem T3 : T 3 = some ⟨.int .i64, 1, 8, (.int .i64 0), true⟩ := by kernel_rfl
theorem T4 : T 4 = some ⟨.bool, 1, 1, (.bool false), true⟩ := by kernel_rfl
theorem T5 : T 5 = some ⟨.int .u8, 1, 1, (.int .u8 0), true⟩ := by kernel_rfl
theorem T9 : T 9 = some ⟨.str, 1, 16, (.str []), true⟩ := by kernel_rfl
theorem T22 : T 22 = some ⟨.int .u64, 1, 8, (.int .u64 0), true⟩ := by kernel_rfl
theorem T23 : T 23 = some ⟨.slice 48, 1, 24, (.vec 18 [] .exact), true⟩ := by kernel_rfl
theorem T25 : T 25 = some ⟨.struct [(0, 22), (1, 23)], 2, 32, (.agg [(.int .u64 0), (.vec 18 [] .exact)]), true⟩ := by kernel_rfl
theorem T26 : T 26 = some ⟨.array 16 22, 16, 128, (.agg (nums .u64 16 (fun _ => 0))), true⟩ := by kernel_rfl
theorem T28 : T 28 = some ⟨.slice 44, 1, 24, (.vec 18 [] .exact), true⟩ := by kernel_rfl
theorem T30 : T 30 = some ⟨.struct [(0, 22), (1, 28)], 2, 32, (.agg [(.int .u64 0), (.vec 18 [] .exact)]), true⟩ := by kernel_rfl
theorem T33 : T 33 = some ⟨.iface, 1, 16, .nili, false⟩ := by kernel_rfl
theorem T42 : T 42 = some ⟨.array 16 22, 16, 128, (.agg (nums .u64 16 (fun _ => 0))), true⟩ := by kernel_rfl
theorem T44 : T 44 = some ⟨.struct [(0, 22), (1, 22), (2, 42)], 18, 144, (.agg [(.int .u64 0), (.int .u64 0), (.int .u64 0), (.int .u64 0), (.int .u64 0), (.int .u64 0), (.int .u64 0), (.int .u64 0), (.int .u64 0), (.int .u64 0), (.int .u64 0), (.int .u64 0), (.int .u64 0), (.int .u64 0), (.int .u64 0), (.int .u64 0), (.int .u64 0), (.int .u64 0)]), true⟩ := by kernel_rfl
theorem T48 : T 48 = some ⟨.struct [(0, 22), (1, 22), (2, 26)], 18, 144, (.agg [(.int .u64 0), (.int .u64 0), (.int .u64 0), (.int .u64 0), (.int .u64 0), (.int .u64 0), (.int .u64 0), (.int .u64 0), (.int .u64 0), (.int .u64 0), (.int .u64 0), (.int .u64 0), (.int .u64 0), (.int .u64 0), (.int .u64 0), (.int .u64 0), (.int .u64 0), (.int .u64 0)]), true⟩ := by kernel_rfl
theorem T60 : T 60 = some ⟨.slice 62, 1, 24, (.vec 2 [] .exact), true⟩ := by kernel_rfl
theorem T61 : T 61 = some ⟨.slice 22, 1, 24, (.vec 1 [] .exact), true⟩ := by kernel_rfl
theorem T62 : T 62 = some ⟨.array 2 5, 2, 2, (.agg [(.int .u8 0), (.int .u8 0)]), true⟩ := by kernel_rfl
theorem T67 : T 67 = some ⟨.struct [(0, 22), (1, 22), (2, 22), (3, 3), (4, 3)], 5, 40, (.agg [(.int .u64 0), (.int .u64 0), (.int .u64 0), (.int .i64 0), (.int .i64 0)]), true⟩ := by kernel_rfl
theorem T68 : T 68 = some ⟨.slice 5, 1, 24, (.vec 1 [] .exact), true⟩ := by kernel_rfl
theorem T71 : T 71 = some ⟨.struct [(0, 22), (1, 22), (2, 22), (3, 3), (4, 3)], 5, 40, (.agg [(.int .u64 0), (.int .u64 0), (.int .u64 0), (.int .i64 0), (.int .i64 0)]), true⟩ := by kernel_rfl
theorem T84 : T 84 = some ⟨.int .u16, 1, 2, (.int .u16 0), true⟩ := by kernel_rfl
theorem T85 : T 85 = some ⟨.array 2 84, 2, 4, (.agg [(.int .u16 0), (.int .u16 0)]), true⟩ := by kernel_rfl
theorem T86 : T 86 = some ⟨.array 2 68, 2, 48, (.agg [(.vec 1 [] .exact), (.vec 1 [] .exact)]), true⟩ := by kernel_rfl
theorem T87 : T 87 = some ⟨.int .u64, 1, 8, (.int .u64 0), true⟩ := by kernel_rfl
theorem T90 : T 90 = some ⟨.slice 98, 1, 24, (.vec 7 [] .exact), true⟩ := by kernel_rfl
theorem T92 : T 92 = some ⟨.struct [(0, 3), (1, 22)], 2, 16, (.agg [(.int .i64 0), (.int .u64 0)]), true⟩ := by kernel_rfl
theorem T94 : T 94 = some ⟨.struct [(0, 9), (1, 5)], 2, 24, (.agg [(.str []), (.int .u8 0)]), true⟩ := by kernel_rfl
theorem T96 : T 96 = some ⟨.struct [(0, 92), (2, 22), (3, 22), (4, 94), (6, 9)], 7, 72, (.agg [(.int .i64 0), (.int .u64 0), (.int .u64 0), (.int .u64 0), (.str []), (.int .u8 0), (.str [])]), true⟩ := by kernel_rfl
theorem T98 : T 98 = some ⟨.struct [(0, 22), (1, 4), (2, 22), (3, 92), (5, 94)], 7, 64, (.agg [(.int .u64 0), (.bool false), (.int .u64 0), (.int .i64 0), (.int .u64 0), (.str []), (.int .u8 0)]), true⟩ := by kernel_rfl
theorem T99 : T 99 = some ⟨.slice 106, 1, 24, (.vec 7 [] .exact), true⟩ := by kernel_rfl
theorem T101 : T 101 = some ⟨.struct [(0, 99)], 1, 24, (.agg [(.vec 7 [] .exact)]), true⟩ := by kernel_rfl
theorem T103 : T 103 = some ⟨.struct [(0, 3), (1, 22)], 2, 16, (.agg [(.int .i64 0), (.int .u64 0)]), true⟩ := by kernel_rfl
theorem T104 : T 104 = some ⟨.struct [(0, 9), (1, 5)], 2, 24, (.agg [(.str []), (.int .u8 0)]), true⟩ := by kernel_rfl
theorem T106 : T 106 = some ⟨.struct [(0, 22), (1, 4), (2, 22), (3, 103), (5, 104)], 7, 64, (.agg [(.int .u64 0), (.bool false), (.int .u64 0), (.int .i64 0), (.int .u64 0), (.str []), (.int .u8 0)]), true⟩ := by kernel_rfl
theorem T111 : T 111 = some ⟨.slice 103, 1, 24, (.vec 2 [] .exact), true⟩ := by kernel_rfl
theorem T114 : T 114 = some ⟨.slice 92, 1, 24, (.vec 2 [] .exact), true⟩ := by kernel_rfl
theorem T136 : T 136 = some ⟨.slice 140, 1, 24, (.vec 6 [] .exact), true⟩ := by kernel_rfl
theorem T137 : T 137 = some ⟨.slice 3, 1, 24, (.vec 1 [] .exact), true⟩ := by kernel_rfl
theorem T138 : T 138 = some ⟨.slice 4, 1, 24, (.vec 1 [] .exact), true⟩ := by kernel_rfl
theorem T140 : T 140 = some ⟨.struct [(0, 5), (1, 5), (2, 5), (3, 5), (4, 5), (5, 5)], 6, 6, (.agg [(.int .u8 0), (.int .u8 0), (.int .u8 0), (.int .u8 0), (.int .u8 0), (.int .u8 0)]), true⟩ := by kernel_rfl
theorem T145 : T 145 = some ⟨.slice 9, 1, 24, (.vec 1 [] .exact), true⟩ := by kernel_rfl
theorem T147 : T 147 = some ⟨.struct [(0, 145), (1, 137)], 2, 48, (.agg [(.vec 1 [] .exact), (.vec 1 [] .exact)]), true⟩ := by kernel_rfl
theorem T149 : T 149 = some ⟨.struct [(0, 145), (1, 137)], 2, 48, (.agg [(.vec 1 [] .exact), (.vec 1 [] .exact)]), true⟩ := by kernel_rfl
theorem T163 : T 163 = some ⟨.int .i64, 1, 8, (.int .i64 0), true⟩ := by kernel_rfl
theorem T172 : T 172 = some ⟨.func, 1, 8, .nilfn, true⟩ := by kernel_rfl
theorem T175 : T 175 = some ⟨.array 5 22, 5, 40, (.agg [(.int .u64 0), (.int .u64 0), (.int .u64 0), (.int .u64 0), (.int .u64 0)]), true⟩ := by kernel_rfl
theorem T181 : T 181 = some ⟨.ptr 243, 1, 8, .nilp, true⟩ := by kernel_rfl
theorem T188 : T 188 = some ⟨.struct [(0, 68), (1, 4)], 2, 32, (.agg [(.vec 1 [] .exact), (.bool false)]), true⟩ := by kernel_rfl
theorem T192 : T 192 = some ⟨.func, 1, 8, .nilfn, true⟩ := by kernel_rfl
theorem T217 : T 217 = some ⟨.array 1024 4, 1024, 1024, (.agg (bools 1024 (fun _ => false))), true⟩ := by kernel_rfl
theorem T220 : T 220 = some ⟨.func, 1, 8, .nilfn, true⟩ := by kernel_rfl
theorem T222 : T 222 = some ⟨.func, 1, 8, .nilfn, true⟩ := by kernel_rfl
theorem T236 : T 236 = some ⟨.func, 1, 8, .nilfn, true⟩ := by kernel_rfl
theorem T237 : T 237 = some ⟨.int .u32, 1, 4, (.int .u32 0), true⟩ := by kernel_rfl
theorem T243 : T 243 = some ⟨.struct [(0, 68), (1, 4)], 2, 32, (.agg [(.vec 1 [] .exact), (.bool false)]), true⟩ := by kernel_rfl
theorem T250 : T 250 = some ⟨.func, 1, 8, .nilfn, true⟩ := by kernel_rfl
theorem T274 : T 274 = some ⟨.array 16 237, 16, 64, (.agg (nums .u32 16 (fun _ => 0))), true⟩ := by kernel_rfl

/-- An error, or none, by its number. -/
def errD (n : Nat) : D := if n = 0 then .nili else .iface 163 (.int .i64 n)

theorem errD_zero : errD 0 = .nili := rfl
theorem errD_pos {n : Nat} (h : n ≠ 0) : errD n = .iface 163 (.int .i64 n) := if_neg h
theorem errD_cases (n : Nat) : (n = 0 ∧ errD n = .nili) ∨ (n ≠ 0 ∧ errD n = .iface 163 (.int .i64 n)) := by
  by_cases h : n = 0
  · exact .inl ⟨h, by subst h; rfl⟩
  · exact .inr ⟨h, if_neg h⟩
theorem errD_dem (n : Nat) : (errD n).demote = some (errD n) := by rcases errD_cases n with ⟨_, h⟩ | ⟨_, h⟩ <;> rw [h] <;> rfl
theorem errD_demC (n : Nat) : (errD n).demoteC = some (errD n) := by rcases errD_cases n with ⟨_, h⟩ | ⟨_, h⟩ <;> rw [h] <;> rfl
theorem errD_bor (n : Nat) (st : St) : st.borrow (errD n) = some (errD n) := by rcases errD_cases n with ⟨_, h⟩ | ⟨_, h⟩ <;> rw [h] <;> rfl
theorem errD_out (n : Nat) (τ : List Bool) : outD τ (errD n) = some (errD n, τ) := by rcases errD_cases n with ⟨_, h⟩ | ⟨_, h⟩ <;> rw [h] <;> rfl
theorem errD_outC (n : Nat) (τ : List Bool) : outC τ (errD n) = some (errD n, τ) := by rcases errD_cases n with ⟨_, h⟩ | ⟨_, h⟩ <;> rw [h] <;> rfl
theorem errD_ado (n : Nat) (τ : List Bool) : adopt τ (errD n) = (errD n, τ) := by rcases errD_cases n with ⟨_, h⟩ | ⟨_, h⟩ <;> rw [h] <;> rfl
theorem errD_adoC (n : Nat) (τ : List Bool) : adoptC τ (errD n) = (errD n, τ) := by rcases errD_cases n with ⟨_, h⟩ | ⟨_, h⟩ <;> rw [h] <;> rfl
theorem errD_adoR (n : Nat) (τ : List Bool) : adoptR τ (errD n) = (errD n, τ) := by rcases errD_cases n with ⟨_, h⟩ | ⟨_, h⟩ <;> rw [h] <;> rfl
theorem errD_plain (n : Nat) : (errD n).plain = true := by rcases errD_cases n with ⟨_, h⟩ | ⟨_, h⟩ <;> rw [h] <;> rfl
theorem errD_freeO (n : Nat) : (errD n).freeO = true := by rcases errD_cases n with ⟨_, h⟩ | ⟨_, h⟩ <;> rw [h] <;> rfl
theorem errD_freeR (n : Nat) : (errD n).freeR = true := by rcases errD_cases n with ⟨_, h⟩ | ⟨_, h⟩ <;> rw [h] <;> rfl
theorem errD_glob (n : Nat) : (errD n).global = true := by rcases errD_cases n with ⟨_, h⟩ | ⟨_, h⟩ <;> rw [h] <;> rfl
theorem errD_close (n : Nat) (st : St) : st.close (errD n) = errD n := by rcases errD_cases n with ⟨_, h⟩ | ⟨_, h⟩ <;> rw [h] <;> rfl
theorem errD_lsl (n : Nat) : (errD n).isLsl = false := by rcases errD_cases n with ⟨_, h⟩ | ⟨_, h⟩ <;> rw [h] <;> rfl
theorem errD_fresh (n : Nat) : (errD n).fresh1 = false := by rcases errD_cases n with ⟨_, h⟩ | ⟨_, h⟩ <;> rw [h] <;> rfl
/-- '== nil'. -/
theorem errD_eq (n : Nat) (lit : Bool) {t : TypeId} (ht : tdOf T t = .iface) : binV T .eql lit t (errD n) .nili = (if n = 0 then (bif lit then some (.bool true) else .none) else some (.bool false)) := by
  rcases errD_cases n with ⟨h0, h⟩ | ⟨h0, h⟩ <;> rw [h] <;> simp [binV, ht, eqOp, h0]
theorem errD_ne (n : Nat) (lit : Bool) {t : TypeId} (ht : tdOf T t = .iface) : binV T .neq lit t (errD n) .nili = (if n = 0 then (bif lit then some (.bool false) else .none) else some (.bool true)) := by
  rcases errD_cases n with ⟨h0, h⟩ | ⟨h0, h⟩ <;> rw [h] <;> simp [binV, ht, eqOp, h0]

/-! ### Lists of values of one kind -/
theorem ren_map {α : Type} {bs ts : List Nat} {f : α → D} (h : ∀ x, (f x).ren1 bs ts = f x) : ∀ l : List α, renL bs ts (l.map f) = l.map f
  | [] => rfl
  | x :: l => by simp only [List.map_cons, renL, h x, ren_map h l]
theorem toks_map {α : Type} {f : α → D} (h : ∀ x, (f x).tok1 = []) : ∀ l : List α, toksL (l.map f) = []
  | [] => rfl
  | x :: l => by simp only [List.map_cons, toksL, h x, toks_map h l, List.append_nil]
theorem boxes_map {α : Type} {f : α → D} (h : ∀ x, (f x).box1 = []) : ∀ l : List α, boxesL (l.map f) = []
  | [] => rfl
  | x :: l => by simp only [List.map_cons, boxesL, h x, boxes_map h l, List.append_nil]
theorem all_map {α : Type} {f : α → D} {p : D → Bool} (h : ∀ x, p (f x) = true) (l : List α) : (l.map f).all p = true := by
  rw [List.all_map]; exact List.all_eq_true.2 (fun x _ => h x)

end Go.Proofs.YtnhelkclkdfndaaDoor.V
