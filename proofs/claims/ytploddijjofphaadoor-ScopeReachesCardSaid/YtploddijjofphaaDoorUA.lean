/-
The value interpreter 'VI': an interpreter over the model's own code, whose values are trees: a slice is the list of its elements, a struct its cells; there is no memory, no order that is left open, no capacity. What it computes the model's machine does: the texts behind this one show it.
-/
import Derived.Tactics
import Derived.Orders
import Derived.Below
namespace Go.Proofs.YtploddijjofphaaDoor.V
set_option linter.unusedSimpArgs false
set_option linter.unusedVariables false
open Go

/-- What may be done with a slice: nothing but read; it is tight (nil, or its capacity is its length); it is all of row 'i', that this call may append to (or it is tight, and has no elements); the same at a call's border: it is the only one that leads to its row. A slice without elements may be nil, but if it is told to be real. -/
inductive Perm where
  | none | exact | real | own (i : Nat) | fresh
  deriving DecidableEq

inductive D where
  | undef
  | bool (b : Bool)
  | int (k : IntKind) (n : Int)
  | str (s : List UInt8)
  | nilp | nili | nilsl | nilfn
  | lptr (i off : Nat)
  | bptr (b off : Nat)
  | fptr (ds : List D)
  | vec (sz : Nat) (xs : List D) (p : Perm)
  | lsl (i off len sz : Nat)
  | agg (ds : List D)
  | iface (t : TypeId) (d : D)
  | tuple (ds : List D)
  | fn (f : FuncId) (ds : List D)
  deriving Inhabited

def D.cells : D → List D
  | .agg ds => ds
  | d => [d]

/-- A value of one cell. -/
def D.leaf : D → Bool
  | .undef | .agg _ | .tuple _ => false
  | _ => true

def byteD (b : UInt8) : D := .int .u8 b.toNat

/-! ### Types -/
inductive TD where
  | bool | int (k : IntKind) | str | ptr (e : TypeId) | slice (e : TypeId) | array (n : Nat) (e : TypeId) | struct (fs : List (Nat × TypeId)) | iface | func | other

/-- A slice, or a text. -/
def TD.rowish : TD → Bool
  | .slice _ | .str => true
  | _ => false

structure TI where
  d : TD
  sz : Nat
  bytes : Nat
  zero : D
  cmp : Bool := false

def TI.agg (t : TI) : Bool :=
  match t.d with
  | .array .. | .struct .. => true
  | _ => false

abbrev Tab := TypeId → Option TI

/-! ### Slots -/
abbrev Env := List (Nat × D)

def get : Env → Nat → D
  | [], _ => .undef
  | (i, d) :: r, t => bif Nat.beq i t then d else get r t

def put (ρ : Env) (dst : Option Tmp) (d : D) : Env :=
  match dst with
  | some t => (t, d) :: ρ
  | .none => ρ

def prune (keep : Option (List Nat)) (ρ : Env) : Env :=
  match keep with
  | some l => l.map fun t => (t, get ρ t)
  | .none => ρ

structure St where
  ρ : Env
  L : List (Option (List D))
  τ : List Bool
  B : List (List D)

def ofV : Value → D
  | .bool b => .bool b
  | .int k n => .int k n
  | .string s => .str s.data.toList
  | .pointer .none => .nilp
  | .slice .none 0 0 => .nilsl
  | .nilFunc => .nilfn
  | .nilIface => .nili
  | _ => .undef

def eval (ρ : Env) : Operand → D
  | .tmp t => get ρ t
  | .const v => ofV v
  | .func f => .fn f []
  | .global _ => .undef

/-! ### Memory of the call's own -/
/-- A nil slice, by its type: a row without elements. -/
def nz (T : Tab) (t : TypeId) : D → D
  | .nilsl => match T t with
    | some ti => match ti.d with
      | .slice e => match T e with
        | some ei => .vec ei.sz [] .exact
        | .none => .undef
      | _ => .undef
    | .none => .undef
  | d => d

/-- An operand, by its type. -/
def evalT (T : Tab) (t : TypeId) (ρ : Env) : Operand → D
  | .const v => nz T t (ofV v)
  | x => eval ρ x

def St.at_ (st : St) : D → Option (List D × Nat)
  | .lptr i off => match st.L[i]? with
    | some (some ds) => some (ds, off)
    | _ => .none
  | .bptr b off => match st.B[b]? with
    | some ds => some (ds, off)
    | .none => .none
  | .fptr ds => some (ds, 0)
  | _ => .none

def loadC (ds : List D) (off sz : Nat) (agg : Bool) : Option D :=
  if off + sz ≤ ds.length then
    (bif agg then some (.agg ((ds.drop off).take sz)) else ds[off]?)
  else .none

def setC (ds : List D) (off : Nat) (cs : List D) : List D := ds.take off ++ cs ++ ds.drop (off + cs.length)

def loadV (T : Tab) (st : St) (t : TypeId) (a : D) : Option D :=
  match T t, st.at_ a with
  | some ti, some (ds, off) => bif ti.agg || Nat.beq ti.sz 1 then loadC ds off ti.sz ti.agg else .none
  | _, _ => .none

/-- What may be laid into a cell of one's own. -/
def D.keepable (d : D) : Bool := d.leaf

/-- What a function value may hold. -/
def D.flat : D → Bool
  | .bool _ | .int _ _ | .str _ | .nilp | .nili | .nilfn | .bptr _ _ | .fptr _ => true
  | .vec _ _ p => match p with
    | .none | .exact | .real => true
    | _ => false
  | _ => false

def D.global : D → Bool
  | .bool _ | .int _ _ | .str _ | .nilp | .nili | .nilfn | .bptr _ _ | .fptr _ => true
  | .vec _ _ p => match p with
    | .none | .exact | .real => true
    | _ => false
  | .iface _ d => d.global
  | .fn _ ds => ds.all D.flat
  | _ => false

def storeV (T : Tab) (st : St) (t : TypeId) (a x : D) : Option St :=
  match T t with
  | some ti =>
    bif Nat.beq x.cells.length ti.sz && x.cells.all D.leaf then
      match a with
      | .lptr i off => match st.L[i]? with
        | some (some ds) => if off + ti.sz ≤ ds.length then some { st with L := st.L.set i (some (setC ds off x.cells)) } else .none
        | _ => .none
      | .bptr b off => match st.B[b]? with
        | some ds => if off + ti.sz ≤ ds.length then (bif x.cells.all D.global then some { st with B := st.B.set b (setC ds off x.cells) } else .none) else .none
        | .none => .none
      | _ => .none
    else .none
  | .none => .none

/-! ### Operations on values -/
def eqFields (T : Tab) (f : TypeId → List D → List D → Option Bool) : List (Nat × TypeId) → List D → List D → Option Bool
  | [], _, _ => some true
  | (off, u) :: fs, xs, ys => match T u with
    | .none => .none
    | some ui => match f u ((xs.drop off).take ui.sz) ((ys.drop off).take ui.sz) with
      | some a => match eqFields T f fs xs ys with
        | some b => some (a && b)
        | .none => .none
      | .none => .none

def eqItems (f : List D → List D → Option Bool) (sz : Nat) : Nat → List D → List D → Option Bool
  | 0, _, _ => some true
  | m + 1, xs, ys => match f (xs.take sz) (ys.take sz) with
    | some a => match eqItems f sz m (xs.drop sz) (ys.drop sz) with
      | some b => some (a && b)
      | .none => .none
    | .none => .none

/-- '==' of values of these cells, by their type. -/
def eqT (T : Tab) : Nat → TypeId → List D → List D → Option Bool
  | 0, _, _, _ => .none
  | n + 1, t, xs, ys => match T t with
    | .none => .none
    | some ti => match ti.d with
      | .struct fs => bif ti.cmp then eqFields T (eqT T n) fs xs ys else .none
      | .array m e => match T e with
        | some ei => eqItems (eqT T n e) ei.sz m xs ys
        | .none => .none
      | .bool => match xs, ys with
        | [.bool a], [.bool b] => some (a == b)
        | _, _ => .none
      | .int _ => match xs, ys with
        | [.int k a], [.int k' b] => if k = k' then some (a == b) else .none
        | _, _ => .none
      | .str => match xs, ys with
        | [.str a], [.str b] => some (a == b)
        | _, _ => .none
      | _ => .none

def eqOp (op : BinOp) (b : Bool) : Option D :=
  match op with
  | .eql => some (.bool b)
  | .neq => some (.bool !b)
  | _ => .none

def bitsV (op : BinOp) (k : IntKind) (a b : Int) : Int :=
  let x := BitVec.ofInt k.bits a
  let y := BitVec.ofInt k.bits b
  match op with
  | .and => k.wrap (x &&& y).toNat
  | .or => k.wrap (x ||| y).toNat
  | .xor => k.wrap (x ^^^ y).toNat
  | _ => k.wrap (x &&& ~~~y).toNat

def shlV (k : IntKind) (a b : Int) : Int := k.wrap (a * 2 ^ (min b.toNat k.bits))
def shrV (k : IntKind) (a b : Int) : Int := a.fdiv (2 ^ (min b.toNat k.bits))

def intV (op : BinOp) (k : IntKind) (a b : Int) : Option D :=
  match op with
  | .add => some (.int k (k.wrap (a + b)))
  | .sub => some (.int k (k.wrap (a - b)))
  | .mul => some (.int k (k.wrap (a * b)))
  | .quo => if b = 0 then .none else some (.int k (k.wrap (a.tdiv b)))
  | .rem => if b = 0 then .none else some (.int k (a.tmod b))
  | .and | .or | .xor | .andNot => some (.int k (bitsV op k a b))
  | .eql => some (.bool (a == b))
  | .neq => some (.bool (a != b))
  | .lss => some (.bool (decide (a < b)))
  | .leq => some (.bool (decide (a ≤ b)))
  | .gtr => some (.bool (decide (a > b)))
  | .geq => some (.bool (decide (a ≥ b)))
  | _ => .none

def strV (op : BinOp) (a b : List UInt8) : Option D :=
  match op with
  | .add => if a.length + b.length ≤ 9223372036854775807 then some (.str (a ++ b)) else .none
  | .eql => some (.bool (a == b))
  | .neq => some (.bool !(a == b))
  | .lss => some (.bool (Op.bytesLess a b))
  | .leq => some (.bool (Op.bytesLess a b || a == b))
  | .gtr => some (.bool !(Op.bytesLess a b || a == b))
  | .geq => some (.bool !(Op.bytesLess a b))
  | _ => .none

def tdOf (T : Tab) (t : TypeId) : TD :=
  match T t with
  | some ti => ti.d
  | .none => .other

/-- 'lit': one of the operands is a constant. -/
def binV (T : Tab) (op : BinOp) (lit : Bool) (t : TypeId) (x y : D) : Option D :=
  match x, y with
  | .int k a, .int k' b =>
    match op with
    | .shl => if b < 0 then .none else some (.int k (shlV k a b))
    | .shr => if b < 0 then .none else some (.int k (shrV k a b))
    | _ => if k = k' then intV op k a b else .none
  | .str a, .str b => strV op a b
  | x, y => match tdOf T t with
    | .bool => match x, y with
      | .bool a, .bool b => eqOp op (a == b)
      | _, _ => .none
    | .iface => match x, y with
      | .nili, .nili => bif lit then eqOp op true else .none
      | .nili, .iface _ _ => eqOp op false
      | .iface _ _, .nili => eqOp op false
      | _, _ => .none
    | .slice _ => match x, y with
      | .nilsl, .nilsl => eqOp op true
      | .vec _ _ .real, .nilsl => eqOp op false
      | .vec _ (_ :: _) _, .nilsl => eqOp op false
      | .lsl _ _ _ _, .nilsl => eqOp op false
      | _, _ => .none
    | .ptr _ => match x, y with
      | .nilp, .nilp => eqOp op true
      | .fptr _, .nilp => eqOp op false
      | .lptr _ _, .nilp => eqOp op false
      | .bptr _ _, .nilp => eqOp op false
      | _, _ => .none
    | .struct _ => match x, y with
      | .agg xs, .agg ys => aggV xs ys
      | _, _ => .none
    | .array _ _ => match x, y with
      | .agg xs, .agg ys => aggV xs ys
      | _, _ => .none
    | _ => .none
where
  aggV (xs ys : List D) : Option D :=
    match T t with
    | some ti => bif ti.cmp && Nat.beq xs.length ti.sz && Nat.beq ys.length ti.sz then
        match eqT T 6 t xs ys with
        | some b => eqOp op b
        | .none => .none
      else .none
    | .none => .none

def unV (op : UnOp) (x : D) : Option D :=
  match op, x with
  | .neg, .int k n => some (.int k (k.wrap (0 - n)))
  | .xor, .int k n => some (.int k (bitsV .xor k (if k.signed then -1 else k.max) n))
  | .not, .bool b => some (.bool !b)
  | _, _ => .none

def byteOf : D → Option UInt8
  | .int .u8 n => some (UInt8.ofNat n.toNat)
  | _ => .none

def bytesOf : List D → Option (List UInt8)
  | [] => some []
  | x :: xs => match byteOf x with
    | some b => match bytesOf xs with
      | some bs => some (b :: bs)
      | .none => .none
    | .none => .none

/-- The elements of what is read as a slice (or a string) of cells of this size. -/
def St.elems (st : St) (sz : Nat) : D → Option (List D)
  | .vec sz' xs _ => bif Nat.beq sz' sz then some xs else .none
  | .lsl i off len sz' => bif Nat.beq sz' 1 && Nat.beq sz 1 then
      match st.L[i]? with
      | some (some ds) => if off + len ≤ ds.length then (bif ds.all D.global then some ((ds.drop off).take len) else .none) else .none
      | _ => .none
    else .none
  | .str s => bif Nat.beq sz 1 then some (s.map byteD) else .none
  | _ => .none

/-- Of what is told outside of this call's own frame: a row's end is none any more. -/
def D.demote : D → Option D
  | .vec sz xs _ => some (.vec sz xs .none)
  | d => bif d.global then some d else .none

def demoteL : List D → Option (List D)
  | [] => some []
  | x :: xs => match x.demote with
    | some y => match demoteL xs with
      | some ys => some (y :: ys)
      | .none => .none
    | .none => .none

/-- A struct's fields that are slices lose what they may. -/
def D.demoteC : D → Option D
  | .agg ds => match demoteL ds with
    | some es => some (.agg es)
    | .none => .none
  | d => d.demote

def demoteCL : List D → Option (List D)
  | [] => some []
  | x :: xs => match x.demoteC with
    | some y => match demoteCL xs with
      | some ys => some (y :: ys)
      | .none => .none
    | .none => .none

/-- 2^47: what an append may come to, in bytes. -/
def roomy (n bytes : Nat) : Bool := Nat.ble (n * bytes) 140737488355328

def appendV (sz bytes : Nat) (st : St) (s : D) (ys : List D) : Option (D × St) :=
  match s with
  | .vec sz' xs p => bif Nat.beq sz' sz && roomy (xs.length + ys.length) bytes then
      match p with
      | .exact => some (.vec sz (xs ++ ys) (bif ys.isEmpty && !xs.isEmpty then .exact else .own st.τ.length), { st with τ := st.τ ++ [true] })
      | .own i => match st.τ[i]? with
        | some true => some (.vec sz (xs ++ ys) (.own st.τ.length), { st with τ := st.τ.set i false ++ [true] })
        | _ => .none
      | _ => .none
    else .none
  | _ => .none

def lenV : D → Option Nat
  | .str s => some s.length
  | .vec _ xs _ => some xs.length
  | .lsl _ _ len _ => some len
  | _ => .none

def maxV (big : Bool) : D → D → Option D
  | .int k a, .int k' b => if k = k' then some (.int k (bif big then (if b > a then b else a) else (if b < a then b else a))) else .none
  | .str a, .str b => some (.str (bif big then (bif !(Op.bytesLess a b) then a else b) else (bif (Op.bytesLess a b || a == b) then a else b)))
  | _, _ => .none

def maxL (big : Bool) : D → List D → Option D
  | x, [] => some x
  | x, y :: r => match maxV big x y with
    | some z => maxL big z r
    | .none => .none

/-- A number that is an index, or a bound. -/
def natV : D → Option Nat
  | .int _ n => if 0 ≤ n then some n.toNat else .none
  | _ => .none

def optV (ρ : Env) : Option Operand → Option (Option Nat)
  | .none => some .none
  | some x => match natV (eval ρ x) with
    | some n => some (some n)
    | .none => .none

/-- 'x[lo:hi:mx]' of a list's length: where it begins, where it ends, and whether its capacity is its length. -/
def bounds (len : Nat) (lo hi mx : Option Nat) : Option (Nat × Nat) :=
  if lo.getD 0 ≤ hi.getD len ∧ hi.getD len ≤ mx.getD len ∧ mx.getD len ≤ len ∧ (mx.isSome = true → hi.isSome = true) then some (lo.getD 0, hi.getD len) else .none

def cutP (p : Perm) (hi mx : Option Nat) (l h : Nat) : Perm :=
  match mx with
  | some m => if h = m then .exact else .none
  | .none => match hi with
    | .none => match p with
      | .own i => if l = 0 then .own i else .none
      | .real => .none
      | p => p
    | some _ => .none

def sliceV (str : Bool) (esz : Nat) (arr : Option Nat) (x : D) (lo hi mx : Option Nat) : Option D :=
  bif str then strSl x lo hi mx else rowSl x lo hi mx
where
  strSl (x : D) (lo hi mx : Option Nat) : Option D :=
    match x with
    | .str s => match mx with
      | .none => match bounds s.length lo hi .none with
        | some (l, h) => some (.str ((s.take h).drop l))
        | .none => .none
      | some _ => .none
    | _ => .none
  rowSl (x : D) (lo hi mx : Option Nat) : Option D :=
    match arr with
    | some n => match x, mx with
      | .lptr i off, .none => match bounds n lo hi .none with
        | some (l, h) => if l < h then some (.lsl i (off + l * esz) (h - l) esz) else .none
        | .none => .none
      | _, _ => .none
    | .none => match x with
      | .vec sz xs p => bif Nat.beq sz esz then
          match bounds xs.length lo hi mx with
          | some (l, h) => some (.vec sz ((xs.take h).drop l) (cutP p hi mx l h))
          | .none => .none
        else .none
      | .lsl i off len sz => bif Nat.beq sz esz then
          match mx, bounds len lo hi .none with
          | .none, some (l, h) => if l < h then some (.lsl i (off + l * sz) (h - l) sz) else .none
          | _, _ => .none
        else .none
      | _ => .none

def isStr (T : Tab) (t : TypeId) : Bool :=
  match T t with
  | some ti => match ti.d with
    | .str => true
    | _ => false
  | .none => false

def indexAddrV (esz : Nat) (arr : Option Nat) (x : D) (j : Nat) : Option D :=
  match arr with
  | some n => if j < n then
      match x with
      | .lptr i off => some (.lptr i (off + j * esz))
      | .bptr b off => some (.bptr b (off + j * esz))
      | .fptr ds => if (j + 1) * esz ≤ ds.length then some (.fptr (ds.drop (j * esz))) else .none
      | _ => .none
    else .none
  | .none => match x with
    | .vec sz xs _ => bif Nat.beq sz esz then
        match xs[j]? with
        | some e => bif Nat.beq e.cells.length esz then some (.fptr e.cells) else .none
        | .none => .none
      else .none
    | .lsl i off len sz => bif Nat.beq sz esz then (if j < len then some (.lptr i (off + j * sz)) else .none) else .none
    | _ => .none

def fieldAddrV (off : Nat) (x : D) : Option D :=
  match x with
  | .lptr i o => some (.lptr i (o + off))
  | .bptr b o => some (.bptr b (o + off))
  | .fptr ds => if off ≤ ds.length then some (.fptr (ds.drop off)) else .none
  | _ => .none

/-- A part of a value of several cells. -/
def partV (ti : TI) (ds : List D) (off : Nat) : Option D :=
  bif ti.agg || Nat.beq ti.sz 1 then loadC ds off ti.sz ti.agg else .none

def D.whole : D → Bool
  | .undef | .tuple _ => false
  | _ => true

def fillV (place : Nat → Option (Nat × Nat)) (cells : List D) : List (Nat × D) → Option (List D)
  | [] => some cells
  | (i, d) :: rest => match place i with
    | some (off, size) => bif Nat.beq d.cells.length size && d.whole then
        (if off + size ≤ cells.length then fillV place (setC cells off d.cells) rest else .none)
      else .none
    | .none => .none

def buildV (T : Tab) (t : TypeId) (parts : List (Nat × D)) : Option D :=
  match T t with
  | some ti => match ti.d with
    | .struct fs => match fillV (fun i => match fs[i]? with
        | some (off, u) => match T u with
          | some ui => some (off, ui.sz)
          | .none => .none
        | .none => .none) ti.zero.cells parts with
      | some ds => some (.agg ds)
      | .none => .none
    | .array _ e => match T e with
      | some ei => match fillV (fun i => some (i * ei.sz, ei.sz)) ti.zero.cells parts with
        | some ds => some (.agg ds)
        | .none => .none
      | .none => .none
    | _ => .none
  | .none => .none

def fillL (xs : List D) : List (Nat × D) → Option (List D)
  | [] => some xs
  | (i, d) :: rest => if i < xs.length then fillL (xs.set i d) rest else .none

/-- The parts of what is built, each by its type. -/
def partsV (T : Tab) (ty : Nat → TypeId) (ρ : Env) : List (Nat × Operand) → List (Nat × D)
  | [] => []
  | (i, x) :: r => (i, evalT T (ty i) ρ x) :: partsV T ty ρ r

/-- The type of a part. -/
def partTy (T : Tab) (t : TypeId) (i : Nat) : TypeId :=
  match T t with
  | some ti => match ti.d with
    | .struct fs => match fs[i]? with
      | some (_, u) => u
      | .none => t
    | .array _ e => e
    | .slice e => e
    | _ => t
  | .none => t

def okParts (sz : Nat) : List (Nat × D) → Option (List (Nat × D))
  | [] => some []
  | (i, d) :: r => match d.demoteC with
    | some e => bif Nat.beq e.cells.length sz then
        match okParts sz r with
        | some q => some ((i, e) :: q)
        | .none => .none
      else .none
    | .none => .none

def convV (T : Tab) (own : Bool) (src dst : TypeId) (st : St) (x : D) : Option (D × St) :=
  match T src, T dst with
  | some si, some di =>
    match di.d, x with
    | .int k, .int _ n => some (.int k (k.wrap n), st)
    | .str, .str s => some (.str s, st)
    | .str, x => match si.d with
      | .slice e => match T e with
        | some ei => match ei.d with
          | .int .u8 => match st.elems 1 x with
            | some xs => match bytesOf xs with
              | some bs => some (.str bs, st)
              | .none => .none
            | .none => .none
          | _ => .none
        | .none => .none
      | _ => .none
    | .slice e, .str s => match T e with
      | some ei => match ei.d, si.d with
        | .int .u8, .str => bif own then some (.vec 1 (s.map byteD) .none, st)
            else some (.lsl st.L.length 0 s.length 1, { st with L := st.L ++ [some (s.map byteD)] })
        | _, _ => .none
      | .none => .none
    | .slice e, .lsl i off len sz => match T e with
      | some ei => match ei.d with
        | .int .u8 => bif Nat.beq src dst then some (.lsl i off len sz, st) else .none
        | _ => .none
      | .none => .none
    | _, _ => .none
  | _, _ => .none

def esz (T : Tab) (t : TypeId) : Option Nat :=
  match T t with
  | some ti => some ti.sz
  | .none => .none

/-- An array's length, where the type is an array's; and the size of its elements, or of a slice's. -/
def rowOf (T : Tab) (t : TypeId) : Option (Option Nat × Nat) :=
  match T t with
  | some ti => match ti.d with
    | .array n e => match esz T e with
      | some s => some (some n, s)
      | .none => .none
    | .slice e => match esz T e with
      | some s => some (.none, s)
      | .none => .none
    | _ => .none
  | .none => .none

/-- The same of what is cut. -/
def rowS (T : Tab) (t : TypeId) : Option (Option Nat × Nat) :=
  match T t with
  | some ti => match ti.d with
    | .str => some (.none, 1)
    | _ => rowOf T t
  | .none => .none

def D.callee : D → Option (FuncId × List D)
  | .fn f ds => some (f, ds)
  | _ => .none

/-- What a callee gets: nothing of this frame's own. -/
def St.borrow (st : St) : D → Option D
  | .lsl i off len sz => bif Nat.beq sz 1 then
      match st.L[i]? with
      | some (some ds) => if off + len ≤ ds.length then (bif ds.all D.global then some (.vec 1 ((ds.drop off).take len) .none) else .none) else .none
      | _ => .none
    else .none
  | d => d.demoteC

def St.borrowL (st : St) : List D → Option (List D)
  | [] => some []
  | x :: xs => match st.borrow x with
    | some y => match st.borrowL xs with
      | some ys => some (y :: ys)
      | .none => .none
    | .none => .none

def D.isLsl : D → Bool
  | .lsl _ _ _ _ => true
  | _ => false

/-- It leads to no memory. -/
def D.plain : D → Bool
  | .bool _ | .int _ _ | .str _ | .nilp | .nili | .nilfn => true
  | .iface _ d => d.plain
  | .agg ds | .tuple ds => plainL ds
  | _ => false
where plainL : List D → Bool
  | [] => true
  | x :: xs => x.plain && plainL xs

/-- A row of its own that a callee handed back, of plain values. -/
def D.fresh1 : D → Bool
  | .vec sz (x :: xs) .fresh => Nat.beq sz 1 && (x :: xs).all D.plain && (x :: xs).all D.leaf
  | _ => false

def D.row : D → List D
  | .vec _ xs _ => xs
  | _ => []

/-- What a callee handed back: a row of its own is this frame's own from now on. -/
def adopt (τ : List Bool) : D → D × List Bool
  | .vec sz xs .fresh => (.vec sz xs (.own τ.length), τ ++ [true])
  | d => (d, τ)

def adoptL (τ : List Bool) : List D → List D × List Bool
  | [] => ([], τ)
  | x :: xs => ((adopt τ x).1 :: (adoptL (adopt τ x).2 xs).1, (adoptL (adopt τ x).2 xs).2)

def adoptC (τ : List Bool) : D → D × List Bool
  | .agg ds => (.agg (adoptL τ ds).1, (adoptL τ ds).2)
  | d => adopt τ d

def adoptCL (τ : List Bool) : List D → List D × List Bool
  | [] => ([], τ)
  | x :: xs => ((adoptC τ x).1 :: (adoptCL (adoptC τ x).2 xs).1, (adoptCL (adoptC τ x).2 xs).2)

def adoptR (τ : List Bool) : D → D × List Bool
  | .tuple ds => (.tuple (adoptCL τ ds).1, (adoptCL τ ds).2)
  | d => adoptC τ d

/-- What this call hands back. -/
def outD (τ : List Bool) : D → Option (D × List Bool)
  | .vec sz xs (.own i) => match τ[i]? with
    | some true => some (.vec sz xs .fresh, τ.set i false)
    | _ => some (.vec sz xs .none, τ)
  | .vec sz xs .exact => some (.vec sz xs (bif xs.isEmpty then .fresh else .none), τ)
  | d => match d.demote with
    | some e => some (e, τ)
    | .none => .none

def outL (τ : List Bool) : List D → Option (List D × List Bool)
  | [] => some ([], τ)
  | x :: xs => match outD τ x with
    | some (y, τ1) => match outL τ1 xs with
      | some (ys, τ2) => some (y :: ys, τ2)
      | .none => .none
    | .none => .none

def outC (τ : List Bool) : D → Option (D × List Bool)
  | .agg ds => match outL τ ds with
    | some (es, τ1) => some (.agg es, τ1)
    | .none => .none
  | d => outD τ d

def outCL (τ : List Bool) : List D → Option (List D × List Bool)
  | [] => some ([], τ)
  | x :: xs => match outC τ x with
    | some (y, τ1) => match outCL τ1 xs with
      | some (ys, τ2) => some (y :: ys, τ2)
      | .none => .none
    | .none => .none

/-- What a callee gets that may append to this call's own rows. -/
def moveL (st : St) (τ : List Bool) : List D → Option (List D × List Bool)
  | [] => some ([], τ)
  | x :: xs => match x with
    | .vec sz ys (.own i) => match τ[i]? with
      | some true => match moveL st (τ.set i false) xs with
        | some (es, τ') => some (.vec sz ys .fresh :: es, τ')
        | .none => .none
      | _ => .none
    | .vec sz ys .exact => match moveL st τ xs with
      | some (es, τ') => some (.vec sz ys (bif ys.isEmpty then .fresh else .none) :: es, τ')
      | .none => .none
    | x => match st.borrow x with
      | some e => match moveL st τ xs with
        | some (es, τ') => some (e :: es, τ')
        | .none => .none
      | .none => .none

/-- It leads to no shared box from the n-th on. -/
def D.under (n : Nat) : D → Bool
  | .bptr b _ => Nat.blt b n
  | .fptr ds | .agg ds | .tuple ds | .fn _ ds | .vec _ ds _ => underL n ds
  | .iface _ d => d.under n
  | _ => true
where underL (n : Nat) : List D → Bool
  | [] => true
  | x :: xs => x.under n && underL n xs

/-! ### Names anew: at a loop's head the frame's own rows and boxes get the least numbers, in the order of the slots -/
def D.tok1 : D → List Nat
  | .vec _ _ (.own i) => [i]
  | _ => []

def toksL : List D → List Nat
  | [] => []
  | d :: ds => d.tok1 ++ toksL ds

def D.toks : D → List Nat
  | .agg ds => toksL ds
  | d => d.tok1

def D.box1 : D → List Nat
  | .lptr i _ => [i]
  | .lsl i _ _ _ => [i]
  | _ => []

def boxesL : List D → List Nat
  | [] => []
  | d :: ds => d.box1 ++ boxesL ds

def D.boxes : D → List Nat
  | .agg ds => boxesL ds
  | d => d.box1

def memN (i : Nat) : List Nat → Bool
  | [] => false
  | x :: xs => bif Nat.beq x i then true else memN i xs

/-- Those that are as they must be, each once. -/
def sift (ok : Nat → Bool) (acc : List Nat) : List Nat → List Nat
  | [] => acc
  | i :: r => bif ok i && !(memN i acc) then sift ok (acc ++ [i]) r else sift ok acc r

def posN (i : Nat) : List Nat → Nat → Option Nat
  | [], _ => .none
  | x :: xs, k => bif Nat.beq x i then some k else posN i xs (k + 1)

/-- A value, its names anew. -/
def D.ren1 (bs ts : List Nat) : D → D
  | .lptr i o => match posN i bs 0 with
    | some j => .lptr j o
    | .none => .undef
  | .lsl i o l s => match posN i bs 0 with
    | some j => .lsl j o l s
    | .none => .undef
  | .vec sz xs (.own i) => match posN i ts 0 with
    | some j => .vec sz xs (.own j)
    | .none => .vec sz xs .none
  | .agg _ | .tuple _ => .undef
  | d => d

def renL (bs ts : List Nat) : List D → List D
  | [] => []
  | d :: ds => d.ren1 bs ts :: renL bs ts ds

def D.ren (bs ts : List Nat) : D → D
  | .agg ds => .agg (renL bs ts ds)
  | d => d.ren1 bs ts

def St.boxOk (st : St) (i : Nat) : Bool :=
  match st.L[i]? with
  | some (some _) => true
  | _ => false

def St.tokOk (st : St) (i : Nat) : Bool :=
  match st.τ[i]? with
  | some b => b
  | .none => false

def St.content (st : St) (i : Nat) : List D :=
  match st.L[i]? with
  | some (some ds) => ds
  | _ => []

def envBoxes : Env → List Nat
  | [] => []
  | (_, d) :: r => d.boxes ++ envBoxes r

def envToks : Env → List Nat
  | [] => []
  | (_, d) :: r => d.toks ++ envToks r

def conToks (st : St) : List Nat → List Nat
  | [] => []
  | i :: r => toksL (st.content i) ++ conToks st r

def renE (bs ts : List Nat) : Env → Env
  | [] => []
  | (t, d) :: r => (t, d.ren bs ts) :: renE bs ts r

def renB (st : St) (bs ts : List Nat) : List Nat → List (Option (List D))
  | [] => []
  | i :: r => some (renL bs ts (st.content i)) :: renB st bs ts r

def trues : List Nat → List Bool
  | [] => []
  | _ :: r => true :: trues r

def tidyW (st : St) (bs ts : List Nat) : St := ⟨renE bs ts st.ρ, renB st bs ts bs, trues ts, st.B⟩

def tidyB (st : St) : List Nat := sift st.boxOk [] (envBoxes st.ρ)

def tidyT (st : St) : List Nat := sift st.tokOk [] (envToks st.ρ ++ conToks st (tidyB st))

def tidyV (st : St) : St := tidyW st (tidyB st) (tidyT st)

end Go.Proofs.YtploddijjofphaaDoor.V
