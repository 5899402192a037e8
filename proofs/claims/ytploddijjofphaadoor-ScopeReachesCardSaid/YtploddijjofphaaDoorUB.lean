/-
The value interpreter: operations, regions, code, calls.
-/
import Derived.Test.YtploddijjofphaaDoorUA
namespace Go.Proofs.YtploddijjofphaaDoor.V
set_option linter.unusedSimpArgs false
set_option linter.unusedVariables false
open Go

abbrev Hp := List (List D)
abbrev Callees := FuncId → List D → Hp → Option (D × Hp)

def isConst : Operand → Bool
  | .const _ => true
  | _ => false

def builtinV (T : Tab) (st : St) (b : Builtin) (ts : List TypeId) (args : List D) : Option (D × St) :=
  match b, ts, args with
  | .len, t :: _, [x] => match T t with
    | some ti => match ti.d with
      | .array n _ => some (.int .i64 n, st)
      | .str => match x with
        | .str s => some (.int .i64 s.length, st)
        | _ => .none
      | .slice _ => match x with
        | .str _ => .none
        | x => match lenV x with
          | some n => some (.int .i64 n, st)
          | .none => .none
      | _ => .none
    | .none => .none
  | .append, [t, u], [s, x] => match T t, T u with
    | some ti, some ui => match ti.d, ui.d.rowish with
      | .slice e, true => match T e with
        | some ei => match st.elems ei.sz x with
          | some ys => bif Nat.beq ei.sz 0 || Nat.beq ei.bytes 0 then .none else appendV ei.sz ei.bytes st s ys
          | .none => .none
        | .none => .none
      | _, _ => .none
    | _, _ => .none
  | .max, _, x :: r => match maxL true x r with
    | some d => some (d, st)
    | .none => .none
  | .min, _, x :: r => match maxL false x r with
    | some d => some (d, st)
    | .none => .none
  | .copy, t :: _, [.lsl i off len sz, x] => match rowOf T t, st.L[i]? with
    | some (.none, 1), some (some ds) => bif Nat.beq sz 1 then
        match st.elems 1 x with
        | some ys => if off + len ≤ ds.length ∧ ys.length ≤ len then
            (bif ys.all D.leaf then some (.int .i64 ys.length, { st with L := st.L.set i (some (setC ds off ys)) }) else .none)
          else .none
        | .none => .none
      else .none
    | _, _ => .none
  | _, _, _ => .none

open Classical in
/-- A call. fl: 1: the row that it hands back is a box; 2: it gets the rows that are this call's own. -/
noncomputable def callOpV (C : Callees) (fl : Nat) (st : St) (f : D) (args : List D) : Option (D × St) :=
  match f with
  | .fn g caps => bif Nat.beq fl 2 then
      match moveL st st.τ args with
      | some (ds, τ) => match C g (ds ++ caps) st.B with
        | some (r, B') => bif args.any D.isLsl then .none else some ((adoptR τ r).1, { st with τ := (adoptR τ r).2, B := B' })
        | .none => .none
      | .none => .none
    else
      match st.borrowL args with
      | some ds => match C g (ds ++ caps) st.B with
        | some (r, B') =>
          bif Nat.beq fl 1 && r.fresh1 then
            (if B' = st.B ∧ st.B.all (fun ds => ds.all D.plain) = true then some (.lsl st.L.length 0 r.row.length 1, { st with L := st.L ++ [some r.row] }) else .none)
          else bif args.any D.isLsl then
            (if B' = st.B ∧ r.plain = true ∧ st.B.all (fun ds => ds.all D.plain) = true then some (r, st) else .none)
          else some ((adoptR st.τ r).1, { st with τ := (adoptR st.τ r).2, B := B' })
        | .none => .none
      | .none => .none
  | _ => .none

/-- How an operation is taken, by its slot: 0: as it stands. -/
def flipD (flip : Nat → Nat) (dst : Option Tmp) : Nat :=
  match dst with
  | some t => flip t
  | .none => 0

def capsV (ρ : Env) (l : List Operand) : List D := l.map (eval ρ)

def argsV (T : Tab) (ρ : Env) : List Operand → List TypeId → List D
  | x :: xs, t :: ts => evalT T t ρ x :: argsV T ρ xs ts
  | x :: xs, [] => eval ρ x :: argsV T ρ xs []
  | [], _ => []

noncomputable def opV (T : Tab) (flip : Nat → Nat) (C : Callees) (o : Oper) (st : St) : Option (D × St) :=
  match o.op with
  | .move x => some (evalT T o.type st.ρ x, st)
  | .assign x => some (evalT T o.type st.ρ x, st)
  | .pick c a b => match eval st.ρ c with
    | .bool t => some (bif t then evalT T o.type st.ρ a else evalT T o.type st.ρ b, st)
    | _ => .none
  | .alloc e => match T e with
    | some ti => bif Nat.beq (flipD flip o.dst) 0 then some (.lptr st.L.length 0, { st with L := st.L ++ [some ti.zero.cells] })
        else bif ti.zero.cells.all D.global then some (.bptr st.B.length 0, { st with B := st.B ++ [ti.zero.cells] }) else .none
    | .none => .none
  | .box e x => match T e with
    | some ti => bif Nat.beq (evalT T e st.ρ x).cells.length ti.sz && (evalT T e st.ρ x).cells.all D.leaf then
        bif Nat.beq (flipD flip o.dst) 0 then some (.lptr st.L.length 0, { st with L := st.L ++ [some (evalT T e st.ρ x).cells] })
        else match demoteL (evalT T e st.ρ x).cells with
          | some ds => bif Nat.beq (flipD flip o.dst) 1 then some (.fptr ds, st) else some (.bptr st.B.length 0, { st with B := st.B ++ [ds] })
          | .none => .none
      else .none
    | .none => .none
  | .makeFunc fn first caps => match fn, first.toList with
    | .func f, [] => bif (capsV st.ρ caps.toList).all D.flat then some (.fn f (capsV st.ρ caps.toList), st) else .none
    | _, _ => .none
  | .build t parts => match buildV T t (partsV T (partTy T t) st.ρ parts.toList) with
    | some d => some (d, st)
    | .none => .none
  | .buildSlice t len parts => match T t with
    | some ti => match ti.d with
      | .slice e => match T e with
        | some ei => match okParts ei.sz (partsV T (fun _ => e) st.ρ parts.toList) with
          | some ps => bif Nat.beq ei.sz 0 || !(Nat.ble (len * ei.sz) 16777216) then .none else
            match fillL (List.replicate len ei.zero) ps with
            | some xs => bif !(Nat.beq (flipD flip o.dst) 0) then
                (bif Nat.beq ei.sz 1 && xs.all D.leaf then some (.lsl st.L.length 0 xs.length 1, { st with L := st.L ++ [some xs] }) else .none)
              else some (.vec ei.sz xs .exact, st)
            | .none => .none
          | .none => .none
        | .none => .none
      | _ => .none
    | .none => .none
  | .load t a => match loadV T st t (eval st.ρ a) with
    | some d => some (d, st)
    | .none => .none
  | .store t a x => match storeV T st t (eval st.ρ a) (evalT T t st.ρ x) with
    | some st' => some (.tuple [], st')
    | .none => .none
  | .nilCheck x => match eval st.ρ x with
    | .lptr i off => some (.lptr i off, st)
    | .bptr b off => some (.bptr b off, st)
    | .fptr ds => some (.fptr ds, st)
    | _ => .none
  | .binOp op t x y _ => match binV T op (isConst x || isConst y) t (eval st.ρ x) (eval st.ρ y) with
    | some d => some (d, st)
    | .none => .none
  | .unOp op _ x => match unV op (eval st.ρ x) with
    | some d => some (d, st)
    | .none => .none
  | .convert s d x => convV T (Nat.beq (flipD flip o.dst) 0) s d st (evalT T s st.ρ x)
  | .makeInterface t x => match T t with
    | some ti => match ti.d with
      | .iface | .other => .none
      | _ => bif (evalT T t st.ρ x).global then some (.iface t (evalT T t st.ρ x), st) else .none
    | .none => .none
  | .makeSlice t l c => match rowOf T t, T t with
    | some (.none, _), some ti => match ti.d with
      | .slice e => match T e, eval st.ρ l, eval st.ρ c with
        | some ei, .int .i64 n, .int .i64 m =>
          if n = m ∧ 0 ≤ n then
            bif roomy n.toNat ei.bytes && Nat.beq ei.sz 1 && Nat.ble 1 ei.bytes && ei.zero.leaf then
              bif !(Nat.beq (flipD flip o.dst) 0) then
                some (.vec 1 (List.replicate n.toNat ei.zero) .exact, st)
              else some (.lsl st.L.length 0 n.toNat 1, { st with L := st.L ++ [some (List.replicate n.toNat ei.zero)] })
            else .none
          else .none
        | _, _, _ => .none
      | _ => .none
    | _, _ => .none
  | .slice t x lo hi mx => match rowS T t, optV st.ρ lo, optV st.ρ hi, optV st.ρ mx with
    | some (arr, sz), some l, some h, some m => match sliceV (isStr T t) sz arr (eval st.ρ x) l h m with
      | some d => some (d, st)
      | .none => .none
    | _, _, _, _ => .none
  | .fieldAddr s x f => match T s with
    | some ti => match ti.d with
      | .struct fs => match fs[f]? with
        | some (off, u) => match T u, fieldAddrV off (eval st.ρ x) with
          | some ui, some d => bif Nat.beq ui.sz 0 then .none else some (d, st)
          | _, _ => .none
        | .none => .none
      | _ => .none
    | .none => .none
  | .field s x f => match T s with
    | some ti => match ti.d with
      | .struct fs => match fs[f]? with
        | some (off, u) => match T u, eval st.ρ x with
          | some ui, .agg ds => match partV ui ds off with
            | some d => some (d, st)
            | .none => .none
          | _, _ => .none
        | .none => .none
      | _ => .none
    | .none => .none
  | .indexAddr t x i => match rowOf T t, natV (eval st.ρ i) with
    | some (arr, sz), some j => match indexAddrV sz arr (eval st.ρ x) j with
      | some d => some (d, st)
      | .none => .none
    | _, _ => .none
  | .index t x i => match T t, natV (eval st.ρ i), eval st.ρ x with
    | some ti, some j, .str s => match ti.d with
      | .str => match s[j]? with
        | some b => some (byteD b, st)
        | .none => .none
      | _ => .none
    | some ti, some j, .agg ds => match ti.d with
      | .array n e => match T e with
        | some ei => if j < n then (match partV ei ds (j * ei.sz) with
            | some d => some (d, st)
            | .none => .none) else .none
        | .none => .none
      | _ => .none
    | _, _, _ => .none
  | .extract t ix => match eval st.ρ t with
    | .tuple ds => match ds[ix]? with
      | some d => some (d, st)
      | .none => .none
    | _ => .none
  | .call c => match c.callee with
    | .builtin b => builtinV T st b c.argTypes.toList (argsV T st.ρ c.args.toList c.argTypes.toList)
    | .value f => callOpV C (flipD flip o.dst) st (eval st.ρ f) (argsV T st.ρ c.args.toList c.argTypes.toList)
    | _ => .none
  | _ => .none

/-! ### Regions -/
def wantedV (ρ : Env) (ops : List Oper) (o : Oper) : Option Bool :=
  match o.guard with
  | .none => some true
  | some (j, want) => match ops[j]? with
    | some g => match g.dst with
      | some t => match get ρ t with
        | .bool b => some (b == want)
        | .tuple [] => some false
        | _ => .none
      | .none => .none
    | .none => .none

noncomputable def opsV (T : Tab) (flip : Nat → Nat) (C : Callees) (ops : List Oper) : List Oper → St → Option St
  | [], st => some st
  | o :: rest, st => match wantedV st.ρ ops o with
    | some true => match opV T flip C o st with
      | some (d, st') => opsV T flip C ops rest { st' with ρ := put st.ρ o.dst d }
      | .none => .none
    | some false => opsV T flip C ops rest { st with ρ := put st.ρ o.dst (.tuple []) }
    | .none => .none

/-! What an operation of a region that draws its order touches: 'st': it changes the frame's own; 'al': it lays a box; 'ext': the box's number is that of those that there are. -/
inductive Acc where
  | rdL (i : Nat) | wrL (i : Nat) | rdB | wrB | st | al | ext
  deriving DecidableEq

def Acc.clash : Acc → Acc → Bool
  | .rdL i, .wrL j | .wrL i, .rdL j => Nat.beq i j
  | .rdB, .wrB | .wrB, .rdB => true
  | .st, .st => true
  | .al, .ext | .ext, .al => true
  | _, _ => false

def accP : D → List Acc
  | .lptr i _ => [.rdL i]
  | .lsl i _ _ _ => [.rdL i]
  | .bptr _ _ => [.rdB]
  | _ => []

def accW : D → List Acc
  | .lptr i _ => [.wrL i]
  | .lsl i _ _ _ => [.wrL i]
  | .bptr _ _ => [.wrB]
  | _ => []

/-- It leaves the frame's own as it is, whatever its operands. -/
def simpleOp (flip : Nat → Nat) (o : Oper) : Bool :=
  match o.op with
  | .move _ | .assign _ | .pick .. | .makeFunc .. | .build .. | .load .. | .nilCheck _ | .binOp .. | .unOp .. | .makeInterface .. | .slice .. | .fieldAddr .. | .field .. | .indexAddr .. | .index .. | .extract .. => true
  | .convert .. | .buildSlice .. => Nat.beq (flipD flip o.dst) 0
  | .box .. => Nat.beq (flipD flip o.dst) 1
  | .call c => match c.callee with
    | .builtin .len | .builtin .max | .builtin .min => true
    | _ => false
  | _ => false

/-- It may change a box. -/
def isW (flip : Nat → Nat) (o : Oper) : Bool :=
  match o.op with
  | .store .. => true
  | .alloc _ => !(Nat.beq (flipD flip o.dst) 0)
  | .box .. => !(Nat.beq (flipD flip o.dst) 0) && !(Nat.beq (flipD flip o.dst) 1)
  | .call c => match c.callee with
    | .builtin .copy => true
    | _ => false
  | _ => false

/-- It may look into a box. -/
def isR (o : Oper) : Bool :=
  match o.op with
  | .load .. | .convert .. => true
  | .call c => match c.callee with
    | .builtin .copy | .builtin .append => true
    | .builtin _ => false
    | _ => true
  | _ => false

def isAl (flip : Nat → Nat) (o : Oper) : Bool :=
  match o.op with
  | .alloc _ => Nat.beq (flipD flip o.dst) 0
  | _ => false

def isExt (flip : Nat → Nat) (o : Oper) : Bool :=
  match o.op with
  | .box .. => Nat.beq (flipD flip o.dst) 0
  | .makeSlice .. | .convert .. | .buildSlice .. => true
  | .call _ => Nat.beq (flipD flip o.dst) 1
  | _ => false

/-- Neither touches what the other one does. -/
def calm (flip : Nat → Nat) (x y : Oper) : Bool :=
  (simpleOp flip x || simpleOp flip y || (isAl flip x && (isAl flip y || !isExt flip y)) || (isAl flip y && !isExt flip x)) && !(isW flip x && isR y) && !(isR x && isW flip y)

open Classical in
noncomputable def accs (flip : Nat → Nat) (ρ : Env) (B B' : Hp) (o : Oper) : List Acc :=
  (bif simpleOp flip o then [] else bif isAl flip o then [.al] else bif isExt flip o then [.st, .ext] else [.st]) ++ match o.op with
  | .load _ a => accP (eval ρ a)
  | .store _ a _ => accW (eval ρ a)
  | .alloc _ => bif Nat.beq (flipD flip o.dst) 0 then [] else [.wrB]
  | .box _ _ => bif Nat.beq (flipD flip o.dst) 0 || Nat.beq (flipD flip o.dst) 1 then [] else [.wrB]
  | .convert _ _ x => accP (eval ρ x)
  | .call c => match c.callee with
    | .builtin .append => match c.args.toList.map (eval ρ) with
      | [_, x] => accP x
      | _ => []
    | .builtin .copy => match c.args.toList.map (eval ρ) with
      | [s, x] => accW s ++ accP x
      | _ => []
    | .builtin _ => []
    | _ => (if B' = B then Acc.rdB else Acc.wrB) :: ((c.args.toList.map (eval ρ)).map accP).flatten
  | _ => []

noncomputable def stepD (T : Tab) (flip : Nat → Nat) (C : Callees) (ops : List Oper) (o : Oper) (st : St) : Option (St × List Acc) :=
  match wantedV st.ρ ops o with
  | some true => match opV T flip C o st with
    | some (d, st') => some ({ st' with ρ := put st.ρ o.dst d }, accs flip st.ρ st.B st'.B o)
    | .none => .none
  | some false => some ({ st with ρ := put st.ρ o.dst (.tuple []) }, [])
  | .none => .none

noncomputable def runD (T : Tab) (flip : Nat → Nat) (C : Callees) (ops : List Oper) : List Oper → St → Option (St × List (List Acc))
  | [], st => some (st, [])
  | o :: rest, st => match stepD T flip C ops o st with
    | some (st1, a) => match runD T flip C ops rest st1 with
      | some (st2, l) => some (st2, a :: l)
      | .none => .none
    | .none => .none

/-- What comes ahead of an operation, in whatever order: a number's bits. -/
def ancOf (acc : List Nat) (es : List Edge) : Nat :=
  match es with
  | [] => 0
  | e :: r => bif Region.binds .any e then (2 ^ e.on ||| acc.getD e.on 0) ||| ancOf acc r else ancOf acc r

def ancGo (acc : List Nat) : List Oper → List Nat
  | [] => acc
  | o :: r => ancGo (acc ++ [ancOf acc o.after.toList]) r

def ancM (ops : List Oper) : List Nat := ancGo [] ops

def clashL (a b : List Acc) : Bool := a.any fun x => b.any x.clash

open Classical in
/-- Callees, where they leave what all share as it is. -/
noncomputable def keepB (C : Callees) : Callees := fun f args B => match C f args B with
  | some (r, B') => if B' = B then some (r, B') else .none
  | .none => .none

noncomputable def CC (d : Bool) (C : Callees) : Callees := bif d then keepB C else C

/-- Something of an operation against those ahead of it, but of those that must come ahead (the bits). -/
def against {α : Type} (f : α → Bool) (m : Nat) : List α → Nat → Bool
  | [], _ => true
  | y :: r, k => (f y || m.testBit k) && against f m r (k + 1)

def allPairs {α : Type} (f : α → α → Bool) (all : List α) : List α → List Nat → Nat → Bool
  | [], _, _ => true
  | x :: r, m :: ms, i => against (f x) m (all.take i) 0 && allPairs f all r ms (i + 1)
  | _, _, _ => false

def okAccs (ops : List Oper) (l : List (List Acc)) : Bool := allPairs (fun a b => !clashL b a) l l (ancM ops) 0

/-- A region: its order may be drawn (draw); whether that is of no matter is seen by its text, or (dyn) by what it touches. -/
noncomputable def regionV (T : Tab) (flip : Nat → Nat) (C : Callees) (ops : List Oper) (draw dyn : Bool) (st : St) : Option St :=
  bif draw && dyn then
    match runD T flip C ops ops st with
    | some (st', l) => bif okAccs ops l then some st' else .none
    | .none => .none
  else opsV T flip (CC draw C) ops ops st

/-! ### Code -/
inductive X where
  | norm | exit (id : Nat) | ret
  deriving DecidableEq

/-- The number of the region that comes first. -/
def firstOf : Code → Option Nat
  | .region id _ _ => some id
  | .seq a _ => firstOf a
  | .block _ c => firstOf c
  | .loop c => firstOf c
  | _ => .none

structure An where
  keep : Nat → Option (List Nat)
  flip : Nat → Nat
  dyn : Nat → Bool := fun _ => false
  thaw : Nat → Option (Nat × List Nat) := fun _ => .none

def D.plainU (d : D) : D := bif d.plain then d else .undef

/-- A row of the frame's own, to which it might append, is a box of its own from now on; all else that leads to memory is forgotten. -/
def thawV (x : Nat) (st : St) : St :=
  match get st.ρ x with
  | .vec 1 (x0 :: xs) (.own i) => match st.τ[i]? with
    | some true => bif (x0 :: xs).all D.plain && (x0 :: xs).all D.leaf && st.B.all (fun ds => ds.all D.plain) then
        ⟨(x, .lsl st.L.length 0 (x0 :: xs).length 1) :: st.ρ.map (fun p => (p.1, p.2.plainU)), st.L.map (fun _ => .none) ++ [some (x0 :: xs)], st.τ.map fun _ => false, st.B⟩
      else st
    | _ => st
  | _ => st

/-- A loop's head: what is kept, names anew. -/
def An.at_ (an : An) (id : Option Nat) (st : St) : St :=
  match id with
  | some i => match an.keep i with
    | some l => tidyV { st with ρ := prune (some l) st.ρ }
    | .none => st
  | .none => st

/-- Ahead of a region a row may become a box. -/
def An.mid (an : An) (id : Nat) (st : St) : St :=
  match an.thaw id with
  | some (x, l) => thawV x { st with ρ := prune (some l) st.ρ }
  | .none => st

def loopV (F : St → Option (X × St)) : Nat → St → Option (X × St)
  | 0, _ => .none
  | n + 1, st => match F st with
    | some (.norm, st') => loopV F n st'
    | r => r

open Classical in
/-- A loop that comes to an end. -/
noncomputable def loopW (F : St → Option (X × St)) (st : St) : Option (X × St) :=
  if h : ∃ n r, loopV F n st = some r then loopV F h.choose st else .none

noncomputable def codeV (T : Tab) (an : An) (C : Callees) : Code → St → Option (X × St)
  | .skip, st => some (.norm, st)
  | .region id ops draw, st => match regionV T an.flip C ops.toList draw (an.dyn id) (an.mid id st) with
    | some st' => some (.norm, st')
    | .none => .none
  | .seq a b, st => match codeV T an C a st with
    | some (.norm, st') => codeV T an C b st'
    | r => r
  | .cond c x y, st => match eval st.ρ c with
    | .bool t => bif t then codeV T an C x st else codeV T an C y st
    | _ => .none
  | .block id c, st => match codeV T an C c st with
    | some (.exit i, st') => bif Nat.beq i id then some (.norm, st') else some (.exit i, st')
    | r => r
  | .loop c, st => loopW (fun s => codeV T an C c (an.at_ (firstOf c) s)) st
  | .exit id, st => some (.exit id, st)
  | .ret, st => some (.ret, st)
  | _, _ => .none

/-! ### Calls -/
structure FI where
  np : Nat
  nt : Nat
  body : Code
  res : List ResultVar
  an : An
  mv : Bool := false
  cut : Bool := false

def resV (T : Tab) (st : St) : ResultVar → Option D
  | .tmp t => some (get st.ρ t)
  | .cell a t => loadV T st t (get st.ρ a)

def resL (T : Tab) (st : St) : List ResultVar → Option (List D)
  | [] => some []
  | r :: rs => match resV T st r with
    | some d => match resL T st rs with
      | some ds => some (d :: ds)
      | .none => .none
    | .none => .none

/-- A box's row, handed back. -/
def St.close1 (st : St) : D → D
  | .lsl i off len sz => match st.borrow (.lsl i off len sz) with
    | some e => e
    | .none => .lsl i off len sz
  | d => d

def St.close (st : St) : D → D
  | .agg ds => .agg (ds.map st.close1)
  | d => st.close1 d

def retV (T : Tab) (rs : List ResultVar) (st : St) : Option D :=
  match rs with
  | [r] => match resV T st r with
    | some d => match outC st.τ (st.close d) with
      | some (e, _) => some e
      | .none => .none
    | .none => .none
  | rs => match resL T st rs with
    | some ds => match outCL st.τ (ds.map st.close) with
      | some (es, _) => some (.tuple es)
      | .none => .none
    | .none => .none

def envOf (k : Nat) : List D → Env
  | [] => []
  | d :: ds => (k, d) :: envOf (k + 1) ds

/-- A call's begin: the rows that it may append to are its own. -/
def beginV (mv : Bool) (args : List D) (B : Hp) : St :=
  bif mv then ⟨envOf 0 (adoptCL [] args).1, [], (adoptCL [] args).2, B⟩ else ⟨envOf 0 args, [], [], B⟩

def underB (n : Nat) : Hp → Bool
  | [] => true
  | ds :: r => D.under.underL n ds && underB n r

open Classical in
/-- A call's end: the shared boxes that are its own may be forgotten. -/
noncomputable def endV (cut : Bool) (B : Hp) (r : D) (B' : Hp) : Option (D × Hp) :=
  bif cut then
    (if r.under B.length = true ∧ (B'.take B.length = B ∨ underB B.length (B'.take B.length) = true) then some (r, B'.take B.length) else .none)
  else some (r, B')

noncomputable def runV (T : Tab) (C : Callees) (fi : FI) (args : List D) (B : Hp) : Option (D × Hp) :=
  bif Nat.beq args.length fi.np then
    match codeV T fi.an C fi.body (beginV fi.mv args B) with
    | some (.exit _, _) => .none
    | some (_, st) => match retV T fi.res st with
      | some r => endV fi.cut B r st.B
      | .none => .none
    | .none => .none
  else .none

/-- One function more is known. -/
def upd (C : Callees) (f : FuncId) (h : List D → Hp → Option (D × Hp)) : Callees := fun f' args B => bif Nat.beq f f' then h args B else C f' args B

def noCallees : Callees := fun _ _ _ => .none

/-! ### Loops -/
theorem loopV_more (F : St → Option (X × St)) : ∀ (n : Nat) (st : St) (r : X × St), loopV F n st = some r → loopV F (n + 1) st = some r
  | 0, _, _, h => by cases h
  | n + 1, st, r, h => by
    rw [loopV] at h ⊢
    split at h
    · rename_i st' h1; exact loopV_more F n st' r h
    · exact h

theorem loopV_le (F : St → Option (X × St)) {n m : Nat} (h : n ≤ m) {st : St} {r : X × St} (hr : loopV F n st = some r) : loopV F m st = some r := by
  induction h with
  | refl => exact hr
  | step _ ih => exact loopV_more F _ st r ih

theorem loopW_iff (F : St → Option (X × St)) (st : St) (r : X × St) : loopW F st = some r ↔ ∃ n, loopV F n st = some r := by
  unfold loopW
  split
  · rename_i h
    obtain ⟨q, hq⟩ := h.choose_spec
    refine ⟨fun hr => ⟨_, hr⟩, fun ⟨n, hr⟩ => ?_⟩
    have h1 := loopV_le F (Nat.le_max_left n h.choose) hr
    have h2 := loopV_le F (Nat.le_max_right n h.choose) hq
    rw [h1] at h2
    rw [hq, ← h2]
  · rename_i h
    exact ⟨fun hr => (by cases hr), fun ⟨n, hr⟩ => absurd ⟨n, r, hr⟩ h⟩

theorem loopW_next {F : St → Option (X × St)} {st st' : St} {r : X × St} (h : F st = some (.norm, st')) (hr : loopW F st' = some r) : loopW F st = some r := by
  obtain ⟨n, hn⟩ := (loopW_iff F st' r).1 hr
  exact (loopW_iff F st r).2 ⟨n + 1, by rw [loopV, h]; exact hn⟩

theorem loopW_done {F : St → Option (X × St)} {st : St} {x : X} {st' : St} (h : F st = some (x, st')) (hx : x ≠ .norm) : loopW F st = some (x, st') := by
  refine (loopW_iff F st _).2 ⟨1, ?_⟩
  rw [loopV, h]
  cases x with
  | norm => exact absurd rfl hx
  | _ => rfl

end Go.Proofs.YtploddijjofphaaDoor.V
