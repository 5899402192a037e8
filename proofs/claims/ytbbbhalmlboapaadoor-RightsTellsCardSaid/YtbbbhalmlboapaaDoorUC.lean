import Derived.Tactics
import Derived.Orders
import Derived.Below
/-
The value interpreter 'VI': an interpreter over the model's own code, whose values are trees: a slice is the list of its elements, a struct its cells; there is no memory, no order that is left open, no capacity. What it computes the model's machine does: the texts behind this one show it.
-/
namespace Go.Proofs.YtbbbhalmlboapaaDoor.V
set_option linter.unusedSimpArgs false
set_option linter.unusedVariables false
open Go

/-- What may be done with a slice: nothing but read; it is tight (nil, or its capacity is its length); it is all of row 'i', that this call may append to (or it is tight, and has no elements); the same at a call's border: it is the only one that leads to its row. A slice without elements may be nil, but if it is told to be real. -/
inductive Perm where
  | none | exact | real | own (i : Nat) | fresh | box
  deriving DecidableEq

inductive D where
  | undef
  | bool (b : Bool)
  | int (k : IntKind) (n : Int)
  | str (s : List UInt8)
  | nilp | nili | nilsl | nilfn
  | lptr (i off : Nat)
  | bptr (b off : Nat)
  | fptr (ds : List D)
  | vec (sz : Nat) (xs : List D) (p : Perm)
  | lsl (i off len sz : Nat)
  | agg (ds : List D)
  | iface (t : TypeId) (d : D)
  | tuple (ds : List D)
  | fn (f : FuncId) (ds : List D)
  deriving Inhabited

def D.cells : D → List D
  | .agg ds => ds
  | d => [d]

/-- A value of one cell. -/
def D.leaf : D → Bool
  | .undef | .agg _ | .tuple _ => false
  | _ => true

def byteD (b : UInt8) : D := .int .u8 b.toNat

/-! ### Types -/
inductive TD where
  | bool | int (k : IntKind) | str | ptr (e : TypeId) | slice (e : TypeId) | array (n : Nat) (e : TypeId) | struct (fs : List (Nat × TypeId)) | iface | func | other

/-- A slice, or a text. -/
def TD.rowish : TD → Bool
  | .slice _ | .str => true
  | _ => false

structure TI where
  d : TD
  sz : Nat
  bytes : Nat
  zero : D
  cmp : Bool := false

def TI.agg (t : TI) : Bool :=
  match t.d with
  | .array .. | .struct .. => true
  | _ => false

abbrev Tab := TypeId → Option TI

/-! ### Slots -/
abbrev Env := List (Nat × D)

def get : Env → Nat → D
  | [], _ => .undef
  | (i, d) :: r, t => bif Nat.beq i t then d else get r t

def put (ρ : Env) (dst : Option Tmp) (d : D) : Env :=
  match dst with
  | some t => (t, d) :: ρ
  | .none => ρ

def prune (keep : Option (List Nat)) (ρ : Env) : Env :=
  match keep with
  | some l => l.map fun t => (t, get ρ t)
  | .none => ρ

structure St where
  ρ : Env
  L : List (Option (List D))
  τ : List Bool
  B : List (List D)

def ofV : Value → D
  | .bool b => .bool b
  | .int k n => .int k n
  | .string s => .str s.data.toList
  | .pointer .none => .nilp
  | .slice .none 0 0 => .nilsl
  | .nilFunc => .nilfn
  | .nilIface => .nili
  | _ => .undef

def eval (ρ : Env) : Operand → D
  | .tmp t => get ρ t
  | .const v => ofV v
  | .func f => .fn f []
  | .global _ => .undef

/-! ### Memory of the call's own -/
/-- A nil slice, by its type: a row without elements. -/
def nz (T : Tab) (t : TypeId) : D → D
  | .nilsl => match T t with
    | some ti => match ti.d with
      | .slice e => match T e with
        | some ei => .vec ei.sz [] .exact
        | .none => .undef
      | _ => .undef
    | .none => .undef
  | d => d

/-- An operand, by its type. -/
def evalT (T : Tab) (t : TypeId) (ρ : Env) : Operand → D
  | .const v => nz T t (ofV v)
  | x => eval ρ x

def St.at_ (st : St) : D → Option (List D × Nat)
  | .lptr i off => match st.L[i]? with
    | some (some ds) => some (ds, off)
    | _ => .none
  | .bptr b off => match st.B[b]? with
    | some ds => some (ds, off)
    | .none => .none
  | .fptr ds => some (ds, 0)
  | _ => .none

def loadC (ds : List D) (off sz : Nat) (agg : Bool) : Option D :=
  if off + sz ≤ ds.length then
    (bif agg then some (.agg ((ds.drop off).take sz)) else ds[off]?)
  else .none

def setC (ds : List D) (off : Nat) (cs : List D) : List D := ds.take off ++ cs ++ ds.drop (off + cs.length)

def loadV (T : Tab) (st : St) (t : TypeId) (a : D) : Option D :=
  match T t, st.at_ a with
  | some ti, some (ds, off) => bif ti.agg || Nat.beq ti.sz 1 then loadC ds off ti.sz ti.agg else .none
  | _, _ => .none

/-- What may be laid into a cell of one's own. -/
def D.keepable (d : D) : Bool := d.leaf

/-- What a function value may hold. -/
def D.flat : D → Bool
  | .bool _ | .int _ _ | .str _ | .nilp | .nili | .nilfn | .bptr _ _ | .fptr _ => true
  | .vec _ _ p => match p with
    | .none | .exact | .real => true
    | _ => false
  | _ => false

def D.global : D → Bool
  | .bool _ | .int _ _ | .str _ | .nilp | .nili | .nilfn | .bptr _ _ | .fptr _ => true
  | .vec _ _ p => match p with
    | .none | .exact | .real => true
    | _ => false
  | .iface _ d => d.global
  | .fn _ ds => ds.all D.flat
  | _ => false

def storeV (T : Tab) (st : St) (t : TypeId) (a x : D) : Option St :=
  match T t with
  | some ti =>
    bif Nat.beq x.cells.length ti.sz && x.cells.all D.leaf then
      match a with
      | .lptr i off => match st.L[i]? with
        | some (some ds) => if off + ti.sz ≤ ds.length then some { st with L := st.L.set i (some (setC ds off x.cells)) } else .none
        | _ => .none
      | .bptr b off => match st.B[b]? with
        | some ds => if off + ti.sz ≤ ds.length then (bif x.cells.all D.global then some { st with B := st.B.set b (setC ds off x.cells) } else .none) else .none
        | .none => .none
      | _ => .none
    else .none
  | .none => .none

/-! ### Operations on values -/
def eqFields (T : Tab) (f : TypeId → List D → List D → Option Bool) : List (Nat × TypeId) → List D → List D → Option Bool
  | [], _, _ => some true
  | (off, u) :: fs, xs, ys => match T u with
    | .none => .none
    | some ui => match f u ((xs.drop off).take ui.sz) ((ys.drop off).take ui.sz) with
      | some a => match eqFields T f fs xs ys with
        | some b => some (a && b)
        | .none => .none
      | .none => .none

def eqItems (f : List D → List D → Option Bool) (sz : Nat) : Nat → List D → List D → Option Bool
  | 0, _, _ => some true
  | m + 1, xs, ys => match f (xs.take sz) (ys.take sz) with
    | some a => match eqItems f sz m (xs.drop sz) (ys.drop sz) with
      | some b => some (a && b)
      | .none => .none
    | .none => .none

/-- '==' of values of these cells, by their type. -/
def eqT (T : Tab) : Nat → TypeId → List D → List D → Option Bool
  | 0, _, _, _ => .none
  | n + 1, t, xs, ys => match T t with
    | .none => .none
    | some ti => match ti.d with
      | .struct fs => bif ti.cmp then eqFields T (eqT T n) fs xs ys else .none
      | .array m e => match T e with
        | some ei => eqItems (eqT T n e) ei.sz m xs ys
        | .none => .none
      | .bool => match xs, ys with
        | [.bool a], [.bool b] => some (a == b)
        | _, _ => .none
      | .int _ => match xs, ys with
        | [.int k a], [.int k' b] => if k = k' then some (a == b) else .none
        | _, _ => .none
      | .str => match xs, ys with
        | [.str a], [.str b] => some (a == b)
        | _, _ => .none
      | _ => .none

def eqOp (op : BinOp) (b : Bool) : Option D :=
  match op with
  | .eql => some (.bool b)
  | .neq => some (.bool !b)
  | _ => .none

def bitsV (op : BinOp) (k : IntKind) (a b : Int) : Int :=
  let x := BitVec.ofInt k.bits a
  let y := BitVec.ofInt k.bits b
  match op with
  | .and => k.wrap (x &&& y).toNat
  | .or => k.wrap (x ||| y).toNat
  | .xor => k.wrap (x ^^^ y).toNat
  | _ => k.wrap (x &&& ~~~y).toNat

def shlV (k : IntKind) (a b : Int) : Int := k.wrap (a * 2 ^ (min b.toNat k.bits))
def shrV (k : IntKind) (a b : Int) : Int := a.fdiv (2 ^ (min b.toNat k.bits))

def intV (op : BinOp) (k : IntKind) (a b : Int) : Option D :=
  match op with
  | .add => some (.int k (k.wrap (a + b)))
  | .sub => some (.int k (k.wrap (a - b)))
  | .mul => some (.int k (k.wrap (a * b)))
  | .quo => if b = 0 then .none else some (.int k (k.wrap (a.tdiv b)))
  | .rem => if b = 0 then .none else some (.int k (a.tmod b))
  | .and | .or | .xor | .andNot => some (.int k (bitsV op k a b))
  | .eql => some (.bool (a == b))
  | .neq => some (.bool (a != b))
  | .lss => some (.bool (decide (a < b)))
  | .leq => some (.bool (decide (a ≤ b)))
  | .gtr => some (.bool (decide (a > b)))
  | .geq => some (.bool (decide (a ≥ b)))
  | _ => .none

def strV (op : BinOp) (a b : List UInt8) : Option D :=
  match op with
  | .add => if a.length + b.length ≤ 9223372036854775807 then some (.str (a ++ b)) else .none
  | .eql => some (.bool (a == b))
  | .neq => some (.bool !(a == b))
  | .lss => some (.bool (Op.bytesLess a b))
  | .leq => some (.bool (Op.bytesLess a b || a == b))
  | .gtr => some (.bool !(Op.bytesLess a b || a == b))
  | .geq => some (.bool !(Op.bytesLess a b))
  | _ => .none

def tdOf (T : Tab) (t : TypeId) : TD :=
  match T t with
  | some ti => ti.d
  | .none => .other

/-- 'lit': one of the operands is a constant. -/
def binV (T : Tab) (op : BinOp) (lit : Bool) (t : TypeId) (x y : D) : Option D :=
  match x, y with
  | .int k a, .int k' b =>
    match op with
    | .shl => if b < 0 then .none else some (.int k (shlV k a b))
    | .shr => if b < 0 then .none else some (.int k (shrV k a b))
    | _ => if k = k' then intV op k a b else .none
  | .str a, .str b => strV op a b
  | x, y => match tdOf T t with
    | .bool => match x, y with
      | .bool a, .bool b => eqOp op (a == b)
      | _, _ => .none
    | .iface => match x, y with
      | .nili, .nili => bif lit then eqOp op true else .none
      | .nili, .iface _ _ => eqOp op false
      | .iface _ _, .nili => eqOp op false
      | _, _ => .none
    | .slice _ => match x, y with
      | .nilsl, .nilsl => eqOp op true
      | .vec _ _ .real, .nilsl => eqOp op false
      | .vec _ (_ :: _) _, .nilsl => eqOp op false
      | .lsl _ _ _ _, .nilsl => eqOp op false
      | _, _ => .none
    | .ptr _ => match x, y with
      | .nilp, .nilp => eqOp op true
      | .fptr _, .nilp => eqOp op false
      | .lptr _ _, .nilp => eqOp op false
      | .bptr _ _, .nilp => eqOp op false
      | _, _ => .none
    | .struct _ => match x, y with
      | .agg xs, .agg ys => aggV xs ys
      | _, _ => .none
    | .array _ _ => match x, y with
      | .agg xs, .agg ys => aggV xs ys
      | _, _ => .none
    | _ => .none
where
  aggV (xs ys : List D) : Option D :=
    match T t with
    | some ti => bif ti.cmp && Nat.beq xs.length ti.sz && Nat.beq ys.length ti.sz then
        match eqT T 6 t xs ys with
        | some b => eqOp op b
        | .none => .none
      else .none
    | .none => .none

def unV (op : UnOp) (x : D) : Option D :=
  match op, x with
  | .neg, .int k n => some (.int k (k.wrap (0 - n)))
  | .xor, .int k n => some (.int k (bitsV .xor k (if k.signed then -1 else k.max) n))
  | .not, .bool b => some (.bool !b)
  | _, _ => .none

def byteOf : D → Option UInt8
  | .int .u8 n => some (UInt8.ofNat n.toNat)
  | _ => .none

def bytesOf : List D → Option (List UInt8)
  | [] => some []
  | x :: xs => match byteOf x with
    | some b => match bytesOf xs with
      | some bs => some (b :: bs)
      | .none => .none
    | .none => .none

/-- The elements of what is read as a slice (or a string) of cells of this size. -/
def St.elems (st : St) (sz : Nat) : D → Option (List D)
  | .vec sz' xs _ => bif Nat.beq sz' sz then some xs else .none
  | .lsl i off len sz' => bif Nat.beq sz' 1 && Nat.beq sz 1 then
      match st.L[i]? with
      | some (some ds) => if off + len ≤ ds.length then (bif ds.all D.global then some ((ds.drop off).take len) else .none) else .none
      | _ => .none
    else .none
  | .str s => bif Nat.beq sz 1 then some (s.map byteD) else .none
  | _ => .none

/-- Of what is told outside of this call's own frame: a row's end is none any more. -/
def D.demote : D → Option D
  | .vec sz xs _ => some (.vec sz xs .none)
  | d => bif d.global then some d else .none

def demoteL : List D → Option (List D)
  | [] => some []
  | x :: xs => match x.demote with
    | some y => match demoteL xs with
      | some ys => some (y :: ys)
      | .none => .none
    | .none => .none

/-- A struct's fields that are slices lose what they may. -/
def D.demoteC : D → Option D
  | .agg ds => match demoteL ds with
    | some es => some (.agg es)
    | .none => .none
  | d => d.demote

def demoteCL : List D → Option (List D)
  | [] => some []
  | x :: xs => match x.demoteC with
    | some y => match demoteCL xs with
      | some ys => some (y :: ys)
      | .none => .none
    | .none => .none

/-- 2^47: what an append may come to, in bytes. -/
def roomy (n bytes : Nat) : Bool := Nat.ble (n * bytes) 140737488355328

def appendV (sz bytes : Nat) (st : St) (s : D) (ys : List D) : Option (D × St) :=
  match s with
  | .vec sz' xs p => bif Nat.beq sz' sz && roomy (xs.length + ys.length) bytes then
      match p with
      | .exact => some (.vec sz (xs ++ ys) (bif ys.isEmpty && !xs.isEmpty then .exact else .own st.τ.length), { st with τ := st.τ ++ [true] })
      | .own i => match st.τ[i]? with
        | some true => some (.vec sz (xs ++ ys) (.own st.τ.length), { st with τ := st.τ.set i false ++ [true] })
        | _ => .none
      | _ => .none
    else .none
  | _ => .none

def lenV : D → Option Nat
  | .str s => some s.length
  | .vec _ xs _ => some xs.length
  | .lsl _ _ len _ => some len
  | _ => .none

def maxV (big : Bool) : D → D → Option D
  | .int k a, .int k' b => if k = k' then some (.int k (bif big then (if b > a then b else a) else (if b < a then b else a))) else .none
  | .str a, .str b => some (.str (bif big then (bif !(Op.bytesLess a b) then a else b) else (bif (Op.bytesLess a b || a == b) then a else b)))
  | _, _ => .none

def maxL (big : Bool) : D → List D → Option D
  | x, [] => some x
  | x, y :: r => match maxV big x y with
    | some z => maxL big z r
    | .none => .none

/-- A number that is an index, or a bound. -/
def natV : D → Option Nat
  | .int _ n => if 0 ≤ n then some n.toNat else .none
  | _ => .none

def optV (ρ : Env) : Option Operand → Option (Option Nat)
  | .none => some .none
  | some x => match natV (eval ρ x) with
    | some n => some (some n)
    | .none => .none

/-- 'x[lo:hi:mx]' of a list's length: where it begins, where it ends, and whether its capacity is its length. -/
def bounds (len : Nat) (lo hi mx : Option Nat) : Option (Nat × Nat) :=
  if lo.getD 0 ≤ hi.getD len ∧ hi.getD len ≤ mx.getD len ∧ mx.getD len ≤ len ∧ (mx.isSome = true → hi.isSome = true) then some (lo.getD 0, hi.getD len) else .none

def cutP (p : Perm) (hi mx : Option Nat) (l h : Nat) : Perm :=
  match mx with
  | some m => if h = m then .exact else .none
  | .none => match hi with
    | .none => match p with
      | .own i => if l = 0 then .own i else .none
      | .real => .none
      | p => p
    | some _ => .none

def sliceV (str : Bool) (esz : Nat) (arr : Option Nat) (x : D) (lo hi mx : Option Nat) : Option D :=
  bif str then strSl x lo hi mx else rowSl x lo hi mx
where
  strSl (x : D) (lo hi mx : Option Nat) : Option D :=
    match x with
    | .str s => match mx with
      | .none => match bounds s.length lo hi .none with
        | some (l, h) => some (.str ((s.take h).drop l))
        | .none => .none
      | some _ => .none
    | _ => .none
  rowSl (x : D) (lo hi mx : Option Nat) : Option D :=
    match arr with
    | some n => match x, mx with
      | .lptr i off, .none => match bounds n lo hi .none with
        | some (l, h) => if l < h then some (.lsl i (off + l * esz) (h - l) esz) else .none
        | .none => .none
      | _, _ => .none
    | .none => match x with
      | .vec sz xs p => bif Nat.beq sz esz then
          match bounds xs.length lo hi mx with
          | some (l, h) => some (.vec sz ((xs.take h).drop l) (cutP p hi mx l h))
          | .none => .none
        else .none
      | .lsl i off len sz => bif Nat.beq sz esz then
          match mx, bounds len lo hi .none with
          | .none, some (l, h) => if l < h then some (.lsl i (off + l * sz) (h - l) sz) else .none
          | _, _ => .none
        else .none
      | _ => .none

def isStr (T : Tab) (t : TypeId) : Bool :=
  match T t with
  | some ti => match ti.d with
    | .str => true
    | _ => false
  | .none => false

def indexAddrV (esz : Nat) (arr : Option Nat) (x : D) (j : Nat) : Option D :=
  match arr with
  | some n => if j < n then
      match x with
      | .lptr i off => some (.lptr i (off + j * esz))
      | .bptr b off => some (.bptr b (off + j * esz))
      | .fptr ds => if (j + 1) * esz ≤ ds.length then some (.fptr (ds.drop (j * esz))) else .none
      | _ => .none
    else .none
  | .none => match x with
    | .vec sz xs _ => bif Nat.beq sz esz then
        match xs[j]? with
        | some e => bif Nat.beq e.cells.length esz then some (.fptr e.cells) else .none
        | .none => .none
      else .none
    | .lsl i off len sz => bif Nat.beq sz esz then (if j < len then some (.lptr i (off + j * sz)) else .none) else .none
    | _ => .none

def fieldAddrV (off : Nat) (x : D) : Option D :=
  match x with
  | .lptr i o => some (.lptr i (o + off))
  | .bptr b o => some (.bptr b (o + off))
  | .fptr ds => if off ≤ ds.length then some (.fptr (ds.drop off)) else .none
  | _ => .none

/-- A part of a value of several cells. -/
def partV (ti : TI) (ds : List D) (off : Nat) : Option D :=
  bif ti.agg || Nat.beq ti.sz 1 then loadC ds off ti.sz ti.agg else .none

def D.whole : D → Bool
  | .undef | .tuple _ => false
  | _ => true

def fillV (place : Nat → Option (Nat × Nat)) (cells : List D) : List (Nat × D) → Option (List D)
  | [] => some cells
  | (i, d) :: rest => match place i with
    | some (off, size) => bif Nat.beq d.cells.length size && d.whole then
        (if off + size ≤ cells.length then fillV place (setC cells off d.cells) rest else .none)
      else .none
    | .none => .none

def buildV (T : Tab) (t : TypeId) (parts : List (Nat × D)) : Option D :=
  match T t with
  | some ti => match ti.d with
    | .struct fs => match fillV (fun i => match fs[i]? with
        | some (off, u) => match T u with
          | some ui => some (off, ui.sz)
          | .none => .none
        | .none => .none) ti.zero.cells parts with
      | some ds => some (.agg ds)
      | .none => .none
    | .array _ e => match T e with
      | some ei => match fillV (fun i => some (i * ei.sz, ei.sz)) ti.zero.cells parts with
        | some ds => some (.agg ds)
        | .none => .none
      | .none => .none
    | _ => .none
  | .none => .none

def fillL (xs : List D) : List (Nat × D) → Option (List D)
  | [] => some xs
  | (i, d) :: rest => if i < xs.length then fillL (xs.set i d) rest else .none

/-- The parts of what is built, each by its type. -/
def partsV (T : Tab) (ty : Nat → TypeId) (ρ : Env) : List (Nat × Operand) → List (Nat × D)
  | [] => []
  | (i, x) :: r => (i, evalT T (ty i) ρ x) :: partsV T ty ρ r

/-- The type of a part. -/
def partTy (T : Tab) (t : TypeId) (i : Nat) : TypeId :=
  match T t with
  | some ti => match ti.d with
    | .struct fs => match fs[i]? with
      | some (_, u) => u
      | .none => t
    | .array _ e => e
    | .slice e => e
    | _ => t
  | .none => t

def okParts (sz : Nat) : List (Nat × D) → Option (List (Nat × D))
  | [] => some []
  | (i, d) :: r => match d.demoteC with
    | some e => bif Nat.beq e.cells.length sz then
        match okParts sz r with
        | some q => some ((i, e) :: q)
        | .none => .none
      else .none
    | .none => .none

def convV (T : Tab) (own : Bool) (src dst : TypeId) (st : St) (x : D) : Option (D × St) :=
  match T src, T dst with
  | some si, some di =>
    match di.d, x with
    | .int k, .int _ n => some (.int k (k.wrap n), st)
    | .str, .str s => some (.str s, st)
    | .str, x => match si.d with
      | .slice e => match T e with
        | some ei => match ei.d with
          | .int .u8 => match st.elems 1 x with
            | some xs => match bytesOf xs with
              | some bs => some (.str bs, st)
              | .none => .none
            | .none => .none
          | _ => .none
        | .none => .none
      | _ => .none
    | .slice e, .str s => match T e with
      | some ei => match ei.d, si.d with
        | .int .u8, .str => bif own then some (.vec 1 (s.map byteD) .none, st)
            else some (.lsl st.L.length 0 s.length 1, { st with L := st.L ++ [some (s.map byteD)] })
        | _, _ => .none
      | .none => .none
    | .slice e, .lsl i off len sz => match T e with
      | some ei => match ei.d with
        | .int .u8 => bif Nat.beq src dst then some (.lsl i off len sz, st) else .none
        | _ => .none
      | .none => .none
    | _, _ => .none
  | _, _ => .none

def esz (T : Tab) (t : TypeId) : Option Nat :=
  match T t with
  | some ti => some ti.sz
  | .none => .none

/-- An array's length, where the type is an array's; and the size of its elements, or of a slice's. -/
def rowOf (T : Tab) (t : TypeId) : Option (Option Nat × Nat) :=
  match T t with
  | some ti => match ti.d with
    | .array n e => match esz T e with
      | some s => some (some n, s)
      | .none => .none
    | .slice e => match esz T e with
      | some s => some (.none, s)
      | .none => .none
    | _ => .none
  | .none => .none

/-- The same of what is cut. -/
def rowS (T : Tab) (t : TypeId) : Option (Option Nat × Nat) :=
  match T t with
  | some ti => match ti.d with
    | .str => some (.none, 1)
    | _ => rowOf T t
  | .none => .none

def D.callee : D → Option (FuncId × List D)
  | .fn f ds => some (f, ds)
  | _ => .none

/-- What a callee gets: nothing of this frame's own. -/
def St.borrow (st : St) : D → Option D
  | .lsl i off len sz => bif Nat.beq sz 1 then
      match st.L[i]? with
      | some (some ds) => if off + len ≤ ds.length then (bif ds.all D.global then some (.vec 1 ((ds.drop off).take len) .none) else .none) else .none
      | _ => .none
    else .none
  | d => d.demoteC

def St.borrowL (st : St) : List D → Option (List D)
  | [] => some []
  | x :: xs => match st.borrow x with
    | some y => match st.borrowL xs with
      | some ys => some (y :: ys)
      | .none => .none
    | .none => .none

def D.isLsl : D → Bool
  | .lsl _ _ _ _ => true
  | _ => false

/-- It leads to no memory. -/
def D.plain : D → Bool
  | .bool _ | .int _ _ | .str _ | .nilp | .nili | .nilfn => true
  | .iface _ d => d.plain
  | .agg ds | .tuple ds => plainL ds
  | _ => false
where plainL : List D → Bool
  | [] => true
  | x :: xs => x.plain && plainL xs

/-- A row of its own that a callee handed back, of plain values. -/
def D.row1 : D → Bool
  | .vec sz xs .fresh => Nat.beq sz 1 && !xs.isEmpty && xs.all D.plain && xs.all D.leaf
  | .vec sz xs .box => Nat.beq sz 1 && !xs.isEmpty && xs.all D.plain && xs.all D.leaf
  | _ => false

/-- The same, with what is plain behind it. -/
def D.fresh1 : D → Bool
  | .tuple (d :: ds) => d.row1 && D.plain.plainL ds
  | .vec sz xs p => (D.vec sz xs p).row1
  | _ => false

def D.row : D → List D
  | .vec _ xs _ => xs
  | .tuple (.vec _ xs _ :: _) => xs
  | _ => []

/-- The row is box i. -/
def D.asBox (i : Nat) : D → D
  | .tuple (.vec _ xs _ :: ds) => .tuple (.lsl i 0 xs.length 1 :: ds)
  | d => .lsl i 0 d.row.length 1

/-- What leads to no memory but that of rows of its own, of plain values. -/
def D.freeO : D → Bool
  | .vec sz xs .fresh => xs.all D.plain && xs.all D.leaf
  | d => d.plain

def D.freeR : D → Bool
  | .tuple ds => ds.all D.freeO
  | d => d.freeO

/-- What a callee handed back: a row of its own is this frame's own from now on. -/
def adopt (τ : List Bool) : D → D × List Bool
  | .vec sz xs .fresh => (.vec sz xs (.own τ.length), τ ++ [true])
  | .vec sz xs .box => (.vec sz xs .none, τ)
  | d => (d, τ)

def adoptL (τ : List Bool) : List D → List D × List Bool
  | [] => ([], τ)
  | x :: xs => ((adopt τ x).1 :: (adoptL (adopt τ x).2 xs).1, (adoptL (adopt τ x).2 xs).2)

def adoptC (τ : List Bool) : D → D × List Bool
  | .agg ds => (.agg (adoptL τ ds).1, (adoptL τ ds).2)
  | d => adopt τ d

def adoptCL (τ : List Bool) : List D → List D × List Bool
  | [] => ([], τ)
  | x :: xs => ((adoptC τ x).1 :: (adoptCL (adoptC τ x).2 xs).1, (adoptCL (adoptC τ x).2 xs).2)

def adoptR (τ : List Bool) : D → D × List Bool
  | .tuple ds => (.tuple (adoptCL τ ds).1, (adoptCL τ ds).2)
  | d => adoptC τ d

/-- What this call hands back. -/
def outD (τ : List Bool) : D → Option (D × List Bool)
  | .vec sz xs (.own i) => match τ[i]? with
    | some true => some (.vec sz xs .fresh, τ.set i false)
    | _ => some (.vec sz xs .none, τ)
  | .vec sz xs .exact => some (.vec sz xs (bif xs.isEmpty then .fresh else .none), τ)
  | d => match d.demote with
    | some e => some (e, τ)
    | .none => .none

def outL (τ : List Bool) : List D → Option (List D × List Bool)
  | [] => some ([], τ)
  | x :: xs => match outD τ x with
    | some (y, τ1) => match outL τ1 xs with
      | some (ys, τ2) => some (y :: ys, τ2)
      | .none => .none
    | .none => .none

def outC (τ : List Bool) : D → Option (D × List Bool)
  | .agg ds => match outL τ ds with
    | some (es, τ1) => some (.agg es, τ1)
    | .none => .none
  | d => outD τ d

def outCL (τ : List Bool) : List D → Option (List D × List Bool)
  | [] => some ([], τ)
  | x :: xs => match outC τ x with
    | some (y, τ1) => match outCL τ1 xs with
      | some (ys, τ2) => some (y :: ys, τ2)
      | .none => .none
    | .none => .none

/-- What a callee gets that may append to this call's own rows. -/
def moveL (st : St) (τ : List Bool) : List D → Option (List D × List Bool)
  | [] => some ([], τ)
  | x :: xs => match x with
    | .vec sz ys (.own i) => match τ[i]? with
      | some true => match moveL st (τ.set i false) xs with
        | some (es, τ') => some (.vec sz ys .fresh :: es, τ')
        | .none => .none
      | _ => .none
    | .vec sz ys .exact => match moveL st τ xs with
      | some (es, τ') => some (.vec sz ys (bif ys.isEmpty then .fresh else .none) :: es, τ')
      | .none => .none
    | x => match st.borrow x with
      | some e => match moveL st τ xs with
        | some (es, τ') => some (e :: es, τ')
        | .none => .none
      | .none => .none

/-- It leads to no shared box from the n-th on. -/
def D.under (n : Nat) : D → Bool
  | .bptr b _ => Nat.blt b n
  | .fptr ds | .agg ds | .tuple ds | .fn _ ds | .vec _ ds _ => underL n ds
  | .iface _ d => d.under n
  | _ => true
where underL (n : Nat) : List D → Bool
  | [] => true
  | x :: xs => x.under n && underL n xs

/-! ### Names anew: at a loop's head the frame's own rows and boxes get the least numbers, in the order of the slots -/
def D.tok1 : D → List Nat
  | .vec _ _ (.own i) => [i]
  | _ => []

def toksL : List D → List Nat
  | [] => []
  | d :: ds => d.tok1 ++ toksL ds

def D.toks : D → List Nat
  | .agg ds => toksL ds
  | d => d.tok1

def D.box1 : D → List Nat
  | .lptr i _ => [i]
  | .lsl i _ _ _ => [i]
  | _ => []

def boxesL : List D → List Nat
  | [] => []
  | d :: ds => d.box1 ++ boxesL ds

def D.boxes : D → List Nat
  | .agg ds => boxesL ds
  | d => d.box1

def memN (i : Nat) : List Nat → Bool
  | [] => false
  | x :: xs => bif Nat.beq x i then true else memN i xs

/-- Those that are as they must be, each once. -/
def sift (ok : Nat → Bool) (acc : List Nat) : List Nat → List Nat
  | [] => acc
  | i :: r => bif ok i && !(memN i acc) then sift ok (acc ++ [i]) r else sift ok acc r

def posN (i : Nat) : List Nat → Nat → Option Nat
  | [], _ => .none
  | x :: xs, k => bif Nat.beq x i then some k else posN i xs (k + 1)

/-- A value, its names anew. -/
def D.ren1 (bs ts : List Nat) : D → D
  | .lptr i o => match posN i bs 0 with
    | some j => .lptr j o
    | .none => .undef
  | .lsl i o l s => match posN i bs 0 with
    | some j => .lsl j o l s
    | .none => .undef
  | .vec sz xs (.own i) => match posN i ts 0 with
    | some j => .vec sz xs (.own j)
    | .none => .vec sz xs .none
  | .agg _ | .tuple _ => .undef
  | d => d

def renL (bs ts : List Nat) : List D → List D
  | [] => []
  | d :: ds => d.ren1 bs ts :: renL bs ts ds

def D.ren (bs ts : List Nat) : D → D
  | .agg ds => .agg (renL bs ts ds)
  | d => d.ren1 bs ts

def St.boxOk (st : St) (i : Nat) : Bool :=
  match st.L[i]? with
  | some (some _) => true
  | _ => false

def St.tokOk (st : St) (i : Nat) : Bool :=
  match st.τ[i]? with
  | some b => b
  | .none => false

def St.content (st : St) (i : Nat) : List D :=
  match st.L[i]? with
  | some (some ds) => ds
  | _ => []

def envBoxes : Env → List Nat
  | [] => []
  | (_, d) :: r => d.boxes ++ envBoxes r

def envToks : Env → List Nat
  | [] => []
  | (_, d) :: r => d.toks ++ envToks r

def conToks (st : St) : List Nat → List Nat
  | [] => []
  | i :: r => toksL (st.content i) ++ conToks st r

def renE (bs ts : List Nat) : Env → Env
  | [] => []
  | (t, d) :: r => (t, d.ren bs ts) :: renE bs ts r

def renB (st : St) (bs ts : List Nat) : List Nat → List (Option (List D))
  | [] => []
  | i :: r => some (renL bs ts (st.content i)) :: renB st bs ts r

def trues : List Nat → List Bool
  | [] => []
  | _ :: r => true :: trues r

def tidyW (st : St) (bs ts : List Nat) : St := ⟨renE bs ts st.ρ, renB st bs ts bs, trues ts, st.B⟩

def tidyB (st : St) : List Nat := sift st.boxOk [] (envBoxes st.ρ)

def tidyT (st : St) : List Nat := sift st.tokOk [] (envToks st.ρ ++ conToks st (tidyB st))

def tidyV (st : St) : St := tidyW st (tidyB st) (tidyT st)

end Go.Proofs.YtbbbhalmlboapaaDoor.V

/-
The value interpreter: operations, regions, code, calls.
-/
namespace Go.Proofs.YtbbbhalmlboapaaDoor.V
set_option linter.unusedSimpArgs false
set_option linter.unusedVariables false
open Go

abbrev Hp := List (List D)
abbrev Callees := FuncId → List D → Hp → Option (D × Hp)

def isConst : Operand → Bool
  | .const _ => true
  | _ => false

def builtinV (T : Tab) (st : St) (b : Builtin) (ts : List TypeId) (args : List D) : Option (D × St) :=
  match b, ts, args with
  | .len, t :: _, [x] => match T t with
    | some ti => match ti.d with
      | .array n _ => some (.int .i64 n, st)
      | .str => match x with
        | .str s => some (.int .i64 s.length, st)
        | _ => .none
      | .slice _ => match x with
        | .str _ => .none
        | x => match lenV x with
          | some n => some (.int .i64 n, st)
          | .none => .none
      | _ => .none
    | .none => .none
  | .append, [t, u], [s, x] => match T t, T u with
    | some ti, some ui => match ti.d, ui.d.rowish with
      | .slice e, true => match T e with
        | some ei => match st.elems ei.sz x with
          | some ys => bif Nat.beq ei.sz 0 || Nat.beq ei.bytes 0 then .none else appendV ei.sz ei.bytes st s ys
          | .none => .none
        | .none => .none
      | _, _ => .none
    | _, _ => .none
  | .max, _, x :: r => match maxL true x r with
    | some d => some (d, st)
    | .none => .none
  | .min, _, x :: r => match maxL false x r with
    | some d => some (d, st)
    | .none => .none
  | .copy, t :: _, [.lsl i off len sz, x] => match rowOf T t, st.L[i]? with
    | some (.none, 1), some (some ds) => bif Nat.beq sz 1 then
        match st.elems 1 x with
        | some ys => if off + len ≤ ds.length ∧ ys.length ≤ len then
            (bif ys.all D.leaf then some (.int .i64 ys.length, { st with L := st.L.set i (some (setC ds off ys)) }) else .none)
          else .none
        | .none => .none
      else .none
    | _, _ => .none
  | _, _, _ => .none

open Classical in
/-- A call. fl: 1: the row that it hands back is a box; 2: it gets the rows that are this call's own. -/
noncomputable def callOpV (C : Callees) (fl : Nat) (st : St) (f : D) (args : List D) : Option (D × St) :=
  match f with
  | .fn g caps => bif Nat.beq fl 2 then
      match moveL st st.τ args with
      | some (ds, τ) => match C g (ds ++ caps) st.B with
        | some (r, B') => bif args.any D.isLsl then .none else some ((adoptR τ r).1, { st with τ := (adoptR τ r).2, B := B' })
        | .none => .none
      | .none => .none
    else
      match st.borrowL args with
      | some ds => match C g (ds ++ caps) st.B with
        | some (r, B') =>
          bif Nat.beq fl 1 && r.fresh1 then
            (if B' = st.B ∧ st.B.all (fun ds => ds.all D.plain) = true then some (r.asBox st.L.length, { st with L := st.L ++ [some r.row] }) else .none)
          else bif args.any D.isLsl then
            (if B' = st.B ∧ r.freeR = true ∧ st.B.all (fun ds => ds.all D.plain) = true then some ((adoptR st.τ r).1, { st with τ := (adoptR st.τ r).2 }) else .none)
          else some ((adoptR st.τ r).1, { st with τ := (adoptR st.τ r).2, B := B' })
        | .none => .none
      | .none => .none
  | _ => .none

/-- How an operation is taken, by its slot: 0: as it stands. -/
def flipD (flip : Nat → Nat) (dst : Option Tmp) : Nat :=
  match dst with
  | some t => flip t
  | .none => 0

def capsV (ρ : Env) (l : List Operand) : List D := l.map (eval ρ)

def argsV (T : Tab) (ρ : Env) : List Operand → List TypeId → List D
  | x :: xs, t :: ts => evalT T t ρ x :: argsV T ρ xs ts
  | x :: xs, [] => eval ρ x :: argsV T ρ xs []
  | [], _ => []

noncomputable def opV (T : Tab) (flip : Nat → Nat) (C : Callees) (o : Oper) (st : St) : Option (D × St) :=
  match o.op with
  | .move x => some (evalT T o.type st.ρ x, st)
  | .assign x => some (evalT T o.type st.ρ x, st)
  | .pick c a b => match eval st.ρ c with
    | .bool t => some (bif t then evalT T o.type st.ρ a else evalT T o.type st.ρ b, st)
    | _ => .none
  | .alloc e => match T e with
    | some ti => bif Nat.beq (flipD flip o.dst) 0 then some (.lptr st.L.length 0, { st with L := st.L ++ [some ti.zero.cells] })
        else bif ti.zero.cells.all D.global then some (.bptr st.B.length 0, { st with B := st.B ++ [ti.zero.cells] }) else .none
    | .none => .none
  | .box e x => match T e with
    | some ti => bif Nat.beq (evalT T e st.ρ x).cells.length ti.sz && (evalT T e st.ρ x).cells.all D.leaf then
        bif Nat.beq (flipD flip o.dst) 0 then some (.lptr st.L.length 0, { st with L := st.L ++ [some (evalT T e st.ρ x).cells] })
        else match demoteL (evalT T e st.ρ x).cells with
          | some ds => bif Nat.beq (flipD flip o.dst) 1 then some (.fptr ds, st) else some (.bptr st.B.length 0, { st with B := st.B ++ [ds] })
          | .none => .none
      else .none
    | .none => .none
  | .makeFunc fn first caps => match fn, first.toList with
    | .func f, [] => bif (capsV st.ρ caps.toList).all D.flat then some (.fn f (capsV st.ρ caps.toList), st) else .none
    | _, _ => .none
  | .build t parts => match buildV T t (partsV T (partTy T t) st.ρ parts.toList) with
    | some d => some (d, st)
    | .none => .none
  | .buildSlice t len parts => match T t with
    | some ti => match ti.d with
      | .slice e => match T e with
        | some ei => match okParts ei.sz (partsV T (fun _ => e) st.ρ parts.toList) with
          | some ps => bif Nat.beq ei.sz 0 || !(Nat.ble (len * ei.sz) 16777216) then .none else
            match fillL (List.replicate len ei.zero) ps with
            | some xs => bif !(Nat.beq (flipD flip o.dst) 0) then
                (bif Nat.beq ei.sz 1 && xs.all D.leaf then some (.lsl st.L.length 0 xs.length 1, { st with L := st.L ++ [some xs] }) else .none)
              else some (.vec ei.sz xs .exact, st)
            | .none => .none
          | .none => .none
        | .none => .none
      | _ => .none
    | .none => .none
  | .load t a => match loadV T st t (eval st.ρ a) with
    | some d => some (d, st)
    | .none => .none
  | .store t a x => match storeV T st t (eval st.ρ a) (evalT T t st.ρ x) with
    | some st' => some (.tuple [], st')
    | .none => .none
  | .nilCheck x => match eval st.ρ x with
    | .lptr i off => some (.lptr i off, st)
    | .bptr b off => some (.bptr b off, st)
    | .fptr ds => some (.fptr ds, st)
    | _ => .none
  | .binOp op t x y _ => match binV T op (isConst x || isConst y) t (eval st.ρ x) (eval st.ρ y) with
    | some d => some (d, st)
    | .none => .none
  | .unOp op _ x => match unV op (eval st.ρ x) with
    | some d => some (d, st)
    | .none => .none
  | .convert s d x => convV T (Nat.beq (flipD flip o.dst) 0) s d st (evalT T s st.ρ x)
  | .makeInterface t x => match T t with
    | some ti => match ti.d with
      | .iface | .other => .none
      | _ => bif (evalT T t st.ρ x).global then some (.iface t (evalT T t st.ρ x), st) else .none
    | .none => .none
  | .makeSlice t l c => match rowOf T t, T t with
    | some (.none, _), some ti => match ti.d with
      | .slice e => match T e, eval st.ρ l, eval st.ρ c with
        | some ei, .int .i64 n, .int .i64 m =>
          if n = m ∧ 0 ≤ n then
            bif roomy n.toNat ei.bytes && Nat.beq ei.sz 1 && Nat.ble 1 ei.bytes && ei.zero.leaf then
              bif !(Nat.beq (flipD flip o.dst) 0) then
                some (.vec 1 (List.replicate n.toNat ei.zero) .exact, st)
              else some (.lsl st.L.length 0 n.toNat 1, { st with L := st.L ++ [some (List.replicate n.toNat ei.zero)] })
            else .none
          else if n = 0 ∧ 0 ≤ m then
            bif roomy m.toNat ei.bytes && Nat.beq ei.sz 1 && Nat.ble 1 ei.bytes && ei.zero.leaf then
              some (.vec 1 [] (.own st.τ.length), { st with τ := st.τ ++ [true] })
            else .none
          else .none
        | _, _, _ => .none
      | _ => .none
    | _, _ => .none
  | .slice t x lo hi mx => match rowS T t, optV st.ρ lo, optV st.ρ hi, optV st.ρ mx with
    | some (arr, sz), some l, some h, some m => match sliceV (isStr T t) sz arr (eval st.ρ x) l h m with
      | some d => some (d, st)
      | .none => .none
    | _, _, _, _ => .none
  | .fieldAddr s x f => match T s with
    | some ti => match ti.d with
      | .struct fs => match fs[f]? with
        | some (off, u) => match T u, fieldAddrV off (eval st.ρ x) with
          | some ui, some d => bif Nat.beq ui.sz 0 then .none else some (d, st)
          | _, _ => .none
        | .none => .none
      | _ => .none
    | .none => .none
  | .field s x f => match T s with
    | some ti => match ti.d with
      | .struct fs => match fs[f]? with
        | some (off, u) => match T u, eval st.ρ x with
          | some ui, .agg ds => match partV ui ds off with
            | some d => some (d, st)
            | .none => .none
          | _, _ => .none
        | .none => .none
      | _ => .none
    | .none => .none
  | .indexAddr t x i => match rowOf T t, natV (eval st.ρ i) with
    | some (arr, sz), some j => match indexAddrV sz arr (eval st.ρ x) j with
      | some d => some (d, st)
      | .none => .none
    | _, _ => .none
  | .index t x i => match T t, natV (eval st.ρ i), eval st.ρ x with
    | some ti, some j, .str s => match ti.d with
      | .str => match s[j]? with
        | some b => some (byteD b, st)
        | .none => .none
      | _ => .none
    | some ti, some j, .agg ds => match ti.d with
      | .array n e => match T e with
        | some ei => if j < n then (match partV ei ds (j * ei.sz) with
            | some d => some (d, st)
            | .none => .none) else .none
        | .none => .none
      | _ => .none
    | _, _, _ => .none
  | .extract t ix => match eval st.ρ t with
    | .tuple ds => match ds[ix]? with
      | some d => some (d, st)
      | .none => .none
    | _ => .none
  | .call c => match c.callee with
    | .builtin b => builtinV T st b c.argTypes.toList (argsV T st.ρ c.args.toList c.argTypes.toList)
    | .value f => callOpV C (flipD flip o.dst) st (eval st.ρ f) (argsV T st.ρ c.args.toList c.argTypes.toList)
    | _ => .none
  | _ => .none

/-! ### Regions -/
def wantedV (ρ : Env) (ops : List Oper) (o : Oper) : Option Bool :=
  match o.guard with
  | .none => some true
  | some (j, want) => match ops[j]? with
    | some g => match g.dst with
      | some t => match get ρ t with
        | .bool b => some (b == want)
        | .tuple [] => some false
        | _ => .none
      | .none => .none
    | .none => .none

noncomputable def opsV (T : Tab) (flip : Nat → Nat) (C : Callees) (ops : List Oper) : List Oper → St → Option St
  | [], st => some st
  | o :: rest, st => match wantedV st.ρ ops o with
    | some true => match opV T flip C o st with
      | some (d, st') => opsV T flip C ops rest { st' with ρ := put st.ρ o.dst d }
      | .none => .none
    | some false => opsV T flip C ops rest { st with ρ := put st.ρ o.dst (.tuple []) }
    | .none => .none

/-! What an operation of a region that draws its order touches: 'st': it changes the frame's own; 'al': it lays a box; 'ext': the box's number is that of those that there are. -/
inductive Acc where
  | rdL (i : Nat) | wrL (i : Nat) | rdB | wrB | st | al | ext
  deriving DecidableEq

def Acc.clash : Acc → Acc → Bool
  | .rdL i, .wrL j | .wrL i, .rdL j => Nat.beq i j
  | .rdB, .wrB | .wrB, .rdB => true
  | .st, .st => true
  | .al, .ext | .ext, .al => true
  | _, _ => false

def accP : D → List Acc
  | .lptr i _ => [.rdL i]
  | .lsl i _ _ _ => [.rdL i]
  | .bptr _ _ => [.rdB]
  | _ => []

def accW : D → List Acc
  | .lptr i _ => [.wrL i]
  | .lsl i _ _ _ => [.wrL i]
  | .bptr _ _ => [.wrB]
  | _ => []

/-- It leaves the frame's own as it is, whatever its operands. -/
def simpleOp (flip : Nat → Nat) (o : Oper) : Bool :=
  match o.op with
  | .move _ | .assign _ | .pick .. | .makeFunc .. | .build .. | .load .. | .nilCheck _ | .binOp .. | .unOp .. | .makeInterface .. | .slice .. | .fieldAddr .. | .field .. | .indexAddr .. | .index .. | .extract .. => true
  | .convert .. | .buildSlice .. => Nat.beq (flipD flip o.dst) 0
  | .box .. => Nat.beq (flipD flip o.dst) 1
  | .call c => match c.callee with
    | .builtin .len | .builtin .max | .builtin .min => true
    | _ => false
  | _ => false

/-- It may change a box. -/
def isW (flip : Nat → Nat) (o : Oper) : Bool :=
  match o.op with
  | .store .. => true
  | .alloc _ => !(Nat.beq (flipD flip o.dst) 0)
  | .box .. => !(Nat.beq (flipD flip o.dst) 0) && !(Nat.beq (flipD flip o.dst) 1)
  | .call c => match c.callee with
    | .builtin .copy => true
    | _ => false
  | _ => false

/-- It may look into a box. -/
def isR (o : Oper) : Bool :=
  match o.op with
  | .load .. | .convert .. => true
  | .call c => match c.callee with
    | .builtin .copy | .builtin .append => true
    | .builtin _ => false
    | _ => true
  | _ => false

def isAl (flip : Nat → Nat) (o : Oper) : Bool :=
  match o.op with
  | .alloc _ => Nat.beq (flipD flip o.dst) 0
  | _ => false

def isExt (flip : Nat → Nat) (o : Oper) : Bool :=
  match o.op with
  | .box .. => Nat.beq (flipD flip o.dst) 0
  | .makeSlice .. | .convert .. | .buildSlice .. => true
  | .call _ => Nat.beq (flipD flip o.dst) 1
  | _ => false

/-- Neither touches what the other one does. -/
def calm (flip : Nat → Nat) (x y : Oper) : Bool :=
  (simpleOp flip x || simpleOp flip y || (isAl flip x && (isAl flip y || !isExt flip y)) || (isAl flip y && !isExt flip x)) && !(isW flip x && isR y) && !(isR x && isW flip y)

open Classical in
noncomputable def accs (flip : Nat → Nat) (ρ : Env) (B B' : Hp) (o : Oper) : List Acc :=
  (bif simpleOp flip o then [] else bif isAl flip o then [.al] else bif isExt flip o then [.st, .ext] else [.st]) ++ match o.op with
  | .load _ a => accP (eval ρ a)
  | .store _ a _ => accW (eval ρ a)
  | .alloc _ => bif Nat.beq (flipD flip o.dst) 0 then [] else [.wrB]
  | .box _ _ => bif Nat.beq (flipD flip o.dst) 0 || Nat.beq (flipD flip o.dst) 1 then [] else [.wrB]
  | .convert _ _ x => accP (eval ρ x)
  | .call c => match c.callee with
    | .builtin .append => match c.args.toList.map (eval ρ) with
      | [_, x] => accP x
      | _ => []
    | .builtin .copy => match c.args.toList.map (eval ρ) with
      | [s, x] => accW s ++ accP x
      | _ => []
    | .builtin _ => []
    | _ => (if B' = B then Acc.rdB else Acc.wrB) :: ((c.args.toList.map (eval ρ)).map accP).flatten
  | _ => []

noncomputable def stepD (T : Tab) (flip : Nat → Nat) (C : Callees) (ops : List Oper) (o : Oper) (st : St) : Option (St × List Acc) :=
  match wantedV st.ρ ops o with
  | some true => match opV T flip C o st with
    | some (d, st') => some ({ st' with ρ := put st.ρ o.dst d }, accs flip st.ρ st.B st'.B o)
    | .none => .none
  | some false => some ({ st with ρ := put st.ρ o.dst (.tuple []) }, [])
  | .none => .none

noncomputable def runD (T : Tab) (flip : Nat → Nat) (C : Callees) (ops : List Oper) : List Oper → St → Option (St × List (List Acc))
  | [], st => some (st, [])
  | o :: rest, st => match stepD T flip C ops o st with
    | some (st1, a) => match runD T flip C ops rest st1 with
      | some (st2, l) => some (st2, a :: l)
      | .none => .none
    | .none => .none

/-- What comes ahead of an operation, in whatever order: a number's bits. -/
def ancOf (acc : List Nat) (es : List Edge) : Nat :=
  match es with
  | [] => 0
  | e :: r => bif Region.binds .any e then (2 ^ e.on ||| acc.getD e.on 0) ||| ancOf acc r else ancOf acc r

def ancGo (acc : List Nat) : List Oper → List Nat
  | [] => acc
  | o :: r => ancGo (acc ++ [ancOf acc o.after.toList]) r

def ancM (ops : List Oper) : List Nat := ancGo [] ops

def clashL (a b : List Acc) : Bool := a.any fun x => b.any x.clash

open Classical in
/-- Callees, where they leave what all share as it is. -/
noncomputable def keepB (C : Callees) : Callees := fun f args B => match C f args B with
  | some (r, B') => if B' = B then some (r, B') else .none
  | .none => .none

noncomputable def CC (d : Bool) (C : Callees) : Callees := bif d then keepB C else C

/-- Something of an operation against those ahead of it, but of those that must come ahead (the bits). -/
def against {α : Type} (f : α → Bool) (m : Nat) : List α → Nat → Bool
  | [], _ => true
  | y :: r, k => (f y || m.testBit k) && against f m r (k + 1)

def allPairs {α : Type} (f : α → α → Bool) (all : List α) : List α → List Nat → Nat → Bool
  | [], _, _ => true
  | x :: r, m :: ms, i => against (f x) m (all.take i) 0 && allPairs f all r ms (i + 1)
  | _, _, _ => false

def okAccs (ops : List Oper) (l : List (List Acc)) : Bool := allPairs (fun a b => !clashL b a) l l (ancM ops) 0

/-- A region: its order may be drawn (draw); whether that is of no matter is seen by its text, or (dyn) by what it touches. -/
noncomputable def regionV (T : Tab) (flip : Nat → Nat) (C : Callees) (ops : List Oper) (draw dyn : Bool) (st : St) : Option St :=
  bif draw && dyn then
    match runD T flip C ops ops st with
    | some (st', l) => bif okAccs ops l then some st' else .none
    | .none => .none
  else opsV T flip (CC draw C) ops ops st

/-! ### Code -/
inductive X where
  | norm | exit (id : Nat) | ret
  deriving DecidableEq

/-- The number of the region that comes first. -/
def firstOf : Code → Option Nat
  | .region id _ _ => some id
  | .seq a _ => firstOf a
  | .block _ c => firstOf c
  | .loop c => firstOf c
  | _ => .none

structure An where
  keep : Nat → Option (List Nat)
  flip : Nat → Nat
  dyn : Nat → Bool := fun _ => false
  thaw : Nat → Option (Nat × List Nat) := fun _ => .none

def D.plainU (d : D) : D := bif d.plain then d else .undef

/-- All boxes of the frame's own are closed: what they hold is read from now on, and no more. -/
def St.settle (st : St) : St := ⟨st.ρ.map fun p => (p.1, (st.borrow p.2).getD .undef), [], [], st.B⟩

/-- A row of the frame's own, to which it might append, is a box of its own from now on; all else that leads to memory is forgotten. -/
def thawV (x : Nat) (st : St) : St :=
  bif Nat.beq x 9998 then st.settle else match get st.ρ x with
  | .vec 1 (x0 :: xs) (.own i) => match st.τ[i]? with
    | some true => bif (x0 :: xs).all D.plain && (x0 :: xs).all D.leaf && st.B.all (fun ds => ds.all D.plain) then
        ⟨(x, .lsl st.L.length 0 (x0 :: xs).length 1) :: st.ρ.map (fun p => (p.1, p.2.plainU)), st.L.map (fun _ => .none) ++ [some (x0 :: xs)], st.τ.map fun _ => false, st.B⟩
      else st
    | _ => st
  | .lsl _ _ _ _ => st.settle
  | _ => st

/-- A loop's head: what is kept, names anew. -/
def An.at_ (an : An) (id : Option Nat) (st : St) : St :=
  match id with
  | some i => match an.keep i with
    | some l => tidyV { st with ρ := prune (some l) st.ρ }
    | .none => st
  | .none => st

/-- Ahead of a region a row may become a box. -/
def An.mid (an : An) (id : Nat) (st : St) : St :=
  match an.thaw id with
  | some (x, l) => thawV x { st with ρ := prune (some l) st.ρ }
  | .none => st

def loopV (F : St → Option (X × St)) : Nat → St → Option (X × St)
  | 0, _ => .none
  | n + 1, st => match F st with
    | some (.norm, st') => loopV F n st'
    | r => r

open Classical in
/-- A loop that comes to an end. -/
noncomputable def loopW (F : St → Option (X × St)) (st : St) : Option (X × St) :=
  if h : ∃ n r, loopV F n st = some r then loopV F h.choose st else .none

noncomputable def codeV (T : Tab) (an : An) (C : Callees) : Code → St → Option (X × St)
  | .skip, st => some (.norm, st)
  | .region id ops draw, st => match regionV T an.flip C ops.toList draw (an.dyn id) (an.mid id st) with
    | some st' => some (.norm, st')
    | .none => .none
  | .seq a b, st => match codeV T an C a st with
    | some (.norm, st') => codeV T an C b st'
    | r => r
  | .cond c x y, st => match eval st.ρ c with
    | .bool t => bif t then codeV T an C x st else codeV T an C y st
    | _ => .none
  | .block id c, st => match codeV T an C c st with
    | some (.exit i, st') => bif Nat.beq i id then some (.norm, st') else some (.exit i, st')
    | r => r
  | .loop c, st => loopW (fun s => codeV T an C c (an.at_ (firstOf c) s)) st
  | .exit id, st => some (.exit id, st)
  | .ret, st => some (.ret, st)
  | _, _ => .none

/-! ### Calls -/
structure FI where
  np : Nat
  nt : Nat
  body : Code
  res : List ResultVar
  an : An
  mv : Bool := false
  cut : Bool := false
  melt : Bool := false

def resV (T : Tab) (st : St) : ResultVar → Option D
  | .tmp t => some (get st.ρ t)
  | .cell a t => loadV T st t (get st.ρ a)

def resL (T : Tab) (st : St) : List ResultVar → Option (List D)
  | [] => some []
  | r :: rs => match resV T st r with
    | some d => match resL T st rs with
      | some ds => some (d :: ds)
      | .none => .none
    | .none => .none

/-- A box's row, handed back. -/
def St.close1 (st : St) : D → D
  | .lsl i off len sz => match st.borrow (.lsl i off len sz) with
    | some e => e
    | .none => .lsl i off len sz
  | d => d

def St.close (st : St) : D → D
  | .agg ds => .agg (ds.map st.close1)
  | d => st.close1 d

def retV (T : Tab) (rs : List ResultVar) (st : St) : Option D :=
  match rs with
  | [r] => match resV T st r with
    | some d => match outC st.τ (st.close d) with
      | some (e, _) => some e
      | .none => .none
    | .none => .none
  | rs => match resL T st rs with
    | some ds => match outCL st.τ (ds.map st.close) with
      | some (es, _) => some (.tuple es)
      | .none => .none
    | .none => .none

/-- A whole box of this call's own, handed back ahead of what is plain. -/
def meltV (st : St) : List D → Option (List D)
  | .lsl i off len sz :: ds => match st.L[i]? with
    | some (some xs) => bif Nat.beq off 0 && Nat.beq sz 1 && Nat.beq len xs.length && !xs.isEmpty && xs.all D.plain && xs.all D.leaf && xs.all D.global && D.plain.plainL ds && ds.all D.global then some (.vec 1 xs .box :: ds) else .none
    | _ => .none
  | _ => .none

def tupV : List D → D
  | [d] => d
  | ds => .tuple ds

def retM (melt : Bool) (T : Tab) (rs : List ResultVar) (st : St) : Option D :=
  bif melt then
    match resL T st rs with
    | some ds => match meltV st ds with
      | some es => some (tupV es)
      | .none => retV T rs st
    | .none => .none
  else retV T rs st

def envOf (k : Nat) : List D → Env
  | [] => []
  | d :: ds => (k, d) :: envOf (k + 1) ds

/-- A call's begin: the rows that it may append to are its own. -/
def beginV (mv : Bool) (args : List D) (B : Hp) : St :=
  bif mv then ⟨envOf 0 (adoptCL [] args).1, [], (adoptCL [] args).2, B⟩ else ⟨envOf 0 args, [], [], B⟩

def underB (n : Nat) : Hp → Bool
  | [] => true
  | ds :: r => D.under.underL n ds && underB n r

open Classical in
/-- A call's end: the shared boxes that are its own may be forgotten. -/
noncomputable def endV (cut : Bool) (B : Hp) (r : D) (B' : Hp) : Option (D × Hp) :=
  bif cut then
    (if r.under B.length = true ∧ (B'.take B.length = B ∨ underB B.length (B'.take B.length) = true) then some (r, B'.take B.length) else .none)
  else some (r, B')

noncomputable def runV (T : Tab) (C : Callees) (fi : FI) (args : List D) (B : Hp) : Option (D × Hp) :=
  bif Nat.beq args.length fi.np then
    match codeV T fi.an C fi.body (beginV fi.mv args B) with
    | some (.exit _, _) => .none
    | some (_, st) => match retM fi.melt T fi.res st with
      | some r => endV fi.cut B r st.B
      | .none => .none
    | .none => .none
  else .none

/-- One function more is known. -/
def upd (C : Callees) (f : FuncId) (h : List D → Hp → Option (D × Hp)) : Callees := fun f' args B => bif Nat.beq f f' then h args B else C f' args B

def noCallees : Callees := fun _ _ _ => .none

/-! ### Loops -/
theorem loopV_more (F : St → Option (X × St)) : ∀ (n : Nat) (st : St) (r : X × St), loopV F n st = some r → loopV F (n + 1) st = some r
  | 0, _, _, h => by cases h
  | n + 1, st, r, h => by
    rw [loopV] at h ⊢
    split at h
    · rename_i st' h1; exact loopV_more F n st' r h
    · exact h

theorem loopV_le (F : St → Option (X × St)) {n m : Nat} (h : n ≤ m) {st : St} {r : X × St} (hr : loopV F n st = some r) : loopV F m st = some r := by
  induction h with
  | refl => exact hr
  | step _ ih => exact loopV_more F _ st r ih

theorem loopW_iff (F : St → Option (X × St)) (st : St) (r : X × St) : loopW F st = some r ↔ ∃ n, loopV F n st = some r := by
  unfold loopW
  split
  · rename_i h
    obtain ⟨q, hq⟩ := h.choose_spec
    refine ⟨fun hr => ⟨_, hr⟩, fun ⟨n, hr⟩ => ?_⟩
    have h1 := loopV_le F (Nat.le_max_left n h.choose) hr
    have h2 := loopV_le F (Nat.le_max_right n h.choose) hq
    rw [h1] at h2
    rw [hq, ← h2]
  · rename_i h
    exact ⟨fun hr => (by cases hr), fun ⟨n, hr⟩ => absurd ⟨n, r, hr⟩ h⟩

theorem loopW_next {F : St → Option (X × St)} {st st' : St} {r : X × St} (h : F st = some (.norm, st')) (hr : loopW F st' = some r) : loopW F st = some r := by
  obtain ⟨n, hn⟩ := (loopW_iff F st' r).1 hr
  exact (loopW_iff F st r).2 ⟨n + 1, by rw [loopV, h]; exact hn⟩

theorem loopW_done {F : St → Option (X × St)} {st : St} {x : X} {st' : St} (h : F st = some (x, st')) (hx : x ≠ .norm) : loopW F st = some (x, st') := by
  refine (loopW_iff F st _).2 ⟨1, ?_⟩
  rw [loopV, h]
  cases x with
  | norm => exact absurd rfl hx
  | _ => rfl

end Go.Proofs.YtbbbhalmlboapaaDoor.V

/-
What a value of the interpreter says of a value of the machine, and of its memory; that it stays so.
-/
namespace Go.Proofs.YtbbbhalmlboapaaDoor.V
set_option linter.unusedSimpArgs false
set_option linter.unusedVariables false
open Go Go.RowKit

theorem add_add (a : Addr) (i j : Nat) : (a.add i).add j = a.add (i + j) := by
  unfold Addr.add
  by_cases hi : i = 0
  · subst hi; by_cases hj : j = 0 <;> simp [hj]
  · by_cases hj : j = 0
    · subst hj; simp [hi]
    · simp [hi, hj]; omega

theorem add_block (a : Addr) (i : Nat) : (a.add i).block = a.block := by unfold Addr.add; split <;> rfl
theorem add_off (a : Addr) (i : Nat) : (a.add i).off = a.off + i := by unfold Addr.add; split <;> simp_all
theorem add_plain (b o i : Nat) : (⟨b, o, none⟩ : Addr).add i = ⟨b, o + i, none⟩ := by unfold Addr.add; split <;> simp_all

/-- The cells of a list's elements, one behind the other. -/
def cellsL (xs : List D) : List D := (xs.map D.cells).flatten

/-- Elements of so many cells each, all of them values of one cell. -/
def OkL (sz : Nat) (xs : List D) : Prop := ∀ x, x ∈ xs → x.cells.length = sz ∧ x.cells.all D.leaf = true

theorem OkL.len {sz : Nat} {xs : List D} (h : OkL sz xs) : ∀ x, x ∈ xs → x.cells.length = sz := fun x hx => (h x hx).1

theorem OkL.leaf {sz : Nat} {xs : List D} (h : OkL sz xs) {i : Nat} {d : D} (hi : (cellsL xs)[i]? = some d) : d.leaf = true := by
  have hm := List.mem_of_getElem? hi
  simp only [cellsL, List.mem_flatten, List.mem_map] at hm
  obtain ⟨_, ⟨x, hx, rfl⟩, hd⟩ := hm
  exact List.all_eq_true.1 (h x hx).2 d hd

/-- What is clean: it leads to nothing that may yet change. 's': of each block, how many cells, from its begin on, stay what they are. 'bx': where the boxes lie that all calls share. -/
inductive Rep (bx : List Nat) (s : Nat → Nat) (w : World) : D → Value → Prop
  | bool (b : Bool) : Rep bx s w (.bool b) (.bool b)
  | int (k : IntKind) (n : Int) : Rep bx s w (.int k n) (.int k n)
  | str (l : ByteArray) : Rep bx s w (.str l.data.toList) (.string l)
  | nilp : Rep bx s w .nilp (.pointer none)
  | nili : Rep bx s w .nili .nilIface
  | nilsl : Rep bx s w .nilsl (.slice none 0 0)
  | nilfn : Rep bx s w .nilfn .nilFunc
  | nilv (sz : Nat) (p : Perm) (hp : p = .none ∨ p = .exact) : Rep bx s w (.vec sz [] p) (.slice none 0 0)
  | bptr (b o k : Nat) (hk : bx[b]? = some k) : Rep bx s w (.bptr b o) (.pointer (some ⟨k, o, none⟩))
  | fptr (ds : List D) (a : Addr) (vs : Nat → Value) (hc : ∀ i d, ds[i]? = some d → w.cell? (a.add i) = some (vs i))
      (hr : ∀ i d, ds[i]? = some d → Rep bx s w d (vs i)) (hs : ds ≠ [] → a.off + ds.length ≤ s a.block) : Rep bx s w (.fptr ds) (.pointer (some a))
  | vec (sz : Nat) (xs : List D) (p : Perm) (a : Addr) (cap : Nat) (vs : Nat → Value) (hp : p = .none ∨ p = .exact ∧ cap = xs.length ∨ p = .real) (hcap : xs.length ≤ cap)
      (hsz : OkL sz xs)
      (hc : ∀ i d, (cellsL xs)[i]? = some d → w.cell? (a.add i) = some (vs i))
      (hr : ∀ i d, (cellsL xs)[i]? = some d → Rep bx s w d (vs i)) (hs : cellsL xs ≠ [] → a.off + xs.length * sz ≤ s a.block) : Rep bx s w (.vec sz xs p) (.slice (some a) xs.length cap)
  | iface (t : TypeId) (d : D) (v : Value) (h : Rep bx s w d v) : Rep bx s w (.iface t d) (.iface t v)
  | agg (ds : List D) (vs : Array Value) (hl : ds.length = vs.size) (h : ∀ i d, ds[i]? = some d → Rep bx s w d (vs.getD i undef)) : Rep bx s w (.agg ds) (.agg vs)
  | fn (f : FuncId) (ds : List D) (vs : Array Value) (hl : ds.length = vs.size) (h : ∀ i d, ds[i]? = some d → Rep bx s w d (vs.getD i undef)) : Rep bx s w (.fn f ds) (.func (.func f) #[] vs)

/-- What was stable is, and says the same. -/
structure Ev (bx : List Nat) (s : Nat → Nat) (w : World) (bx' : List Nat) (s' : Nat → Nat) (w' : World) : Prop where
  bx : ∀ (b k : Nat), bx[b]? = some k → bx'[b]? = some k
  le : ∀ k, k < w.heap.size → s k ≤ s' k
  cell : ∀ k o v, o < s k → w.cell? ⟨k, o, none⟩ = some v → w'.cell? ⟨k, o, none⟩ = some v

theorem Ev.refl (bx : List Nat) (s : Nat → Nat) (w : World) : Ev bx s w bx s w := ⟨fun _ _ h => h, fun _ _ => Nat.le_refl _, fun _ _ _ _ h => h⟩

theorem Ev.trans {bx bx' bx'' : List Nat} {s s' s'' : Nat → Nat} {w w' w'' : World} (hsz : w.heap.size ≤ w'.heap.size) (h : Ev bx s w bx' s' w') (h' : Ev bx' s' w' bx'' s'' w'') : Ev bx s w bx'' s'' w'' := by
  refine ⟨fun b k hb => h'.bx b k (h.bx b k hb), fun k hk => Nat.le_trans (h.le k hk) (h'.le k (Nat.lt_of_lt_of_le hk hsz)), fun k o v ho hc => ?_⟩
  have hk : k < w.heap.size := World.block_lt_of_cell? w _ hc
  exact h'.cell k o v (Nat.lt_of_lt_of_le ho (h.le k hk)) (h.cell k o v ho hc)

theorem cell_plain {w : World} {a : Addr} {v : Value} (h : w.cell? a = some v) : a = ⟨a.block, a.off, none⟩ := by
  have : a.spot = none := by
    unfold World.cell? at h
    split at h
    · split at h
      · cases h
      · rename_i hn; cases hs : a.spot <;> simp_all
    · cases h
  cases a; simp_all

theorem Ev.at_ {bx bx' : List Nat} {s s' : Nat → Nat} {w w' : World} (h : Ev bx s w bx' s' w') {a : Addr} {v : Value} (hc : w.cell? a = some v) (ho : a.off < s a.block) : w'.cell? a = some v := by
  have e := cell_plain hc
  rw [e] at hc ⊢
  exact h.cell _ _ _ ho hc

theorem lt_of_get {α : Type} {l : List α} {i : Nat} {x : α} (h : l[i]? = some x) : i < l.length := by
  rcases Nat.lt_or_ge i l.length with h' | h'
  · exact h'
  · rw [List.getElem?_eq_none h'] at h; cases h

theorem cellsL_length {sz : Nat} : ∀ {xs : List D}, (∀ x, x ∈ xs → x.cells.length = sz) → (cellsL xs).length = xs.length * sz
  | [], _ => by simp [cellsL]
  | x :: xs, h => by
    have ih := cellsL_length (sz := sz) (xs := xs) (fun y hy => h y (by simp [hy]))
    have hx := h x (by simp)
    simp only [cellsL, List.map_cons, List.flatten_cons, List.length_append, List.length_cons] at ih ⊢
    rw [ih, hx, Nat.add_mul]; omega

theorem cellsL_append (xs ys : List D) : cellsL (xs ++ ys) = cellsL xs ++ cellsL ys := by simp [cellsL]

theorem cellsL_drop {sz : Nat} : ∀ (n : Nat) {xs : List D}, (∀ x, x ∈ xs → x.cells.length = sz) → cellsL (xs.drop n) = (cellsL xs).drop (n * sz)
  | 0, _, _ => by simp
  | n + 1, [], _ => by simp [cellsL]
  | n + 1, x :: xs, h => by
    have ih := cellsL_drop (sz := sz) n (xs := xs) (fun y hy => h y (by simp [hy]))
    have hx := h x (by simp)
    simp only [List.drop_succ_cons, ih]
    simp only [cellsL, List.map_cons, List.flatten_cons]
    rw [show (n + 1) * sz = x.cells.length + n * sz by rw [hx, Nat.add_mul]; omega, List.drop_append]
    simp

theorem cellsL_take {sz : Nat} : ∀ (n : Nat) {xs : List D}, (∀ x, x ∈ xs → x.cells.length = sz) → cellsL (xs.take n) = (cellsL xs).take (n * sz)
  | 0, _, _ => by simp [cellsL]
  | n + 1, [], _ => by simp [cellsL]
  | n + 1, x :: xs, h => by
    have ih := cellsL_take (sz := sz) n (xs := xs) (fun y hy => h y (by simp [hy]))
    have hx := h x (by simp)
    simp only [List.take_succ_cons]
    simp only [cellsL, List.map_cons, List.flatten_cons] at ih ⊢
    rw [ih, show (n + 1) * sz = x.cells.length + n * sz by rw [hx, Nat.add_mul]; omega, List.take_append]
    simp [List.take_of_length_le]

theorem Rep.mono {bx bx' : List Nat} {s s' : Nat → Nat} {w w' : World} (hev : Ev bx s w bx' s' w') {d : D} {v : Value} (h : Rep bx s w d v) : Rep bx' s' w' d v := by
  induction h with
  | bool b => exact .bool b
  | int k n => exact .int k n
  | str l => exact .str l
  | nilp => exact .nilp
  | nili => exact .nili
  | nilsl => exact .nilsl
  | nilfn => exact .nilfn
  | nilv sz p hp => exact .nilv sz p hp
  | bptr b o k hk => exact .bptr b o k (hev.bx b k hk)
  | fptr ds a vs hc hr hs ih =>
    refine .fptr ds a vs (fun i d hi => ?_) ih (fun hne => ?_)
    · refine hev.at_ (hc i d hi) ?_
      have := hs (by rintro rfl; simp at hi)
      have := lt_of_get hi
      rw [add_block, add_off]; omega
    · have h0 : ds[0]? = some (ds.head hne) := by cases ds with | nil => exact absurd rfl hne | cons x xs => rfl
      have hb : a.block < w.heap.size := by have := World.block_lt_of_cell? w _ (hc 0 _ h0); rwa [add_block] at this
      exact Nat.le_trans (hs hne) (hev.le _ hb)
  | vec sz xs p a cap vs hp hcap hsz hc hr hs ih =>
    have hlen := cellsL_length hsz.len
    refine .vec sz xs p a cap vs hp hcap hsz (fun i d hi => ?_) ih (fun hne => ?_)
    · refine hev.at_ (hc i d hi) ?_
      have hl := lt_of_get hi
      have hne : cellsL xs ≠ [] := by intro h0; rw [h0] at hi; simp at hi
      have := hs hne
      rw [add_block, add_off]; omega
    · have hpos : 0 < (cellsL xs).length := List.length_pos_iff.mpr hne
      have hb : a.block < w.heap.size := by
        have := World.block_lt_of_cell? w _ (hc 0 _ (List.getElem?_eq_getElem hpos)); rwa [add_block] at this
      exact Nat.le_trans (hs hne) (hev.le _ hb)
  | iface t d v h ih => exact .iface t d v ih
  | agg ds vs hl h ih => exact .agg ds vs hl ih
  | fn f ds vs hl h ih => exact .fn f ds vs hl ih

end Go.Proofs.YtbbbhalmlboapaaDoor.V
