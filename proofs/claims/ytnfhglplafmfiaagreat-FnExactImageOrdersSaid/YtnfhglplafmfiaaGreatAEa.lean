/- An evaluator of the model's code over data, and the first part of its soundness. -/
import Derived.Calls
import Derived.Orders
import Derived.Laws.Sem
import Derived.Laws.World
import Derived.Laws.Cells
import Derived.Laws.Small
import Derived.Laws.Slices
import Derived.Laws.Append
import Derived.Laws.Cover3
/-
  An evaluator for the model's code over data: slices are lists, boxes and rows of one's own stand in a small table. Sound for the model (AE3 ..).
-/
namespace Go.Proofs.YtnfhglplafmfiaaGreatE
open Go

/-- Data that nothing changes any more. -/
inductive D where
  | undef
  | int (k : IntKind) (n : Int)
  | bool (b : Bool)
  | str (s : ByteArray)
  | nil
  | sl (sz : Nat) (cells : List D)
  | cellp (cells : List D)
  | agg (cells : List D)
  | clo (f : FuncId) (first captured : List D)
  /-- A slice of plain cells that nobody will write to any more, whoever holds it. -/
  | pin (cells : List D)

/-- Values of a frame: data, and references into the table (number, version). -/
inductive AV where
  | undef
  | d (x : D)
  | own (id v : Nat)
  | sub (id v off len : Nat)
  | ptr (id v off : Nat)
  | inn (id v i : Nat)
  | innp (id v i j : Nat)
  | agg (cells : List AV)
  | tuple (vs : List AV)
  | clo (f : FuncId) (first captured : List AV)

/-- A cell of a slice over a pool of rows: data, or a row of the pool. -/
inductive PC where
  | d (x : D)
  | r (k : Nat)

/-- What stands in the table: a box (a variable), a row of data cells, a row of rows, a slice whose cells name rows of a pool. -/
inductive Ob where
  | box (cells : List AV)
  | row (cells : List D)
  | mat (op : Bool) (rows : List (List D))
  | per (w : Nat) (rows : List (List D)) (cells : List PC)

abbrev Env := List (Nat × AV)
abbrev Obs := List (Nat × Option (Nat × Ob))

structure St where
  env : Env
  obs : Obs
  g : Nat

def lookL {α : Type} : List (Nat × α) → Nat → Option α
  | [], _ => none
  | (u, x) :: r, t => if u = t then some x else lookL r t

def St.look (s : St) (t : Nat) : Option AV := lookL s.env t
def obsL (o : Obs) (id : Nat) : Option (Nat × Ob) := (lookL o id).join
def St.ob (s : St) (id : Nat) : Option (Nat × Ob) := obsL s.obs id

def bnd {α β : Type} (x : Option α) (f : α → Option β) : Option β :=
  match x with
  | some a => f a
  | none => none

def mapO {α β : Type} (f : α → Option β) : List α → Option (List β)
  | [] => some []
  | x :: xs => bnd (f x) fun y => bnd (mapO f xs) fun ys => some (y :: ys)

/-- The object at a number, if it has this version. -/
def at_ (O : Nat → Option (Nat × Ob)) (id v : Nat) : Option Ob :=
  match O id with
  | some (v', ob) => if v' = v then some ob else none
  | none => none

def pcD (rows : List (List D)) : PC → Option D
  | .d x => some x
  | .r k => bnd rows[k]? fun r => some (.sl 1 r)

def idxR (n : Nat) : List PC := (List.range n).map .r

/-- A slice as one over a pool. -/
def asPer : Ob → Option (Nat × List (List D) × List PC)
  | .mat false rows => some (1, rows, idxR rows.length)
  | .per w rows cells => some (w, rows, cells)
  | _ => none

/-- What a callee sees of a value: data alone. -/
def view (O : Nat → Option (Nat × Ob)) : Nat → AV → Option D
  | 0, _ => none
  | _ + 1, .undef => some .undef
  | _ + 1, .d x => some x
  | n + 1, .own id v =>
    match at_ O id v with
    | some (.box cells) => bnd (mapO (view O n) cells) fun ds => some (.sl 1 ds)
    | some (.row cells) => some (.sl 1 cells)
    | some (.mat _ rows) => some (.sl 1 (rows.map (.sl 1)))
    | some (.per w rows cells) => bnd (mapO (pcD rows) cells) fun ds => some (.sl w ds)
    | none => none
  | _ + 1, .sub id v off len =>
    match at_ O id v with
    | some (.row cells) => some (.sl 1 ((cells.drop off).take len))
    | _ => none
  | n + 1, .ptr id v off =>
    match at_ O id v with
    | some (.box cells) => bnd (mapO (view O n) (cells.drop off)) fun ds => some (.cellp ds)
    | some (.per _ rows cells) => bnd (mapO (pcD rows) (cells.drop off)) fun ds => some (.cellp ds)
    | _ => none
  | _ + 1, .inn id v i =>
    match at_ O id v with
    | some (.mat _ rows) => bnd rows[i]? fun r => some (.sl 1 r)
    | some (.per _ rows _) => bnd rows[i]? fun r => some (.sl 1 r)
    | _ => none
  | n + 1, .agg cells => bnd (mapO (view O n) cells) fun ds => some (.agg ds)
  | n + 1, .clo f a b => bnd (mapO (view O n) a) fun x => bnd (mapO (view O n) b) fun y => some (.clo f x y)
  | _ + 1, _ => none

def ofD : D → AV
  | .agg cells => .agg (cells.map .d)
  | .undef => .undef
  | x => .d x

def scalar : Value → Option D
  | .bool b => some (.bool b)
  | .int k n => some (.int k n)
  | .string s => some (.str s)
  | .slice none 0 0 => some .nil
  | _ => none

def ofValue : Value → Option AV
  | .agg cs => bnd (mapO scalar cs.toList) fun ds => some (.agg (ds.map .d))
  | .pointer none => some .undef
  | v => bnd (scalar v) fun x => some (.d x)

def opnd (look : Nat → Option AV) : Operand → Option AV
  | .tmp t => look t
  | .const v => ofValue v
  | .func f => some (.d (.clo f [] []))
  | .global _ => none

/-- Facts of types, as the evaluator reads them. -/
inductive TK where
  | slice (e : TypeId)
  | struct (fields : List (Nat × TypeId))
  | int (k : IntKind)
  | bool
  | string
  | func
  | other

def tk (P : Program) (t : TypeId) : TK :=
  match P.underlying t with
  | some (.slice e) => .slice e
  | some (.struct fs) => .struct (fs.toList.map fun f => (f.offset, f.type))
  | some (.int k) => .int k
  | some .bool => .bool
  | some .string => .string
  | some (.func ..) => .func
  | _ => .other

def sz (P : Program) (t : TypeId) : Nat := match P.info? t with | some i => i.size | none => 0
def byts (P : Program) (t : TypeId) : Nat := match P.info? t with | some i => i.bytes | none => 0
def zer (P : Program) (t : TypeId) : Option AV := match P.info? t with | some i => bnd i.zero ofValue | none => none

/-- The cells of a value. -/
def cellsOf : AV → List AV
  | .agg cs => cs
  | x => [x]

/-- A value of one cell, that is known. -/
def solid : AV → Bool
  | .undef | .agg _ | .tuple _ => false
  | .d (.undef) | .d (.agg _) => false
  | _ => true

def cellsOk : AV → Bool
  | .agg cs => cs.all solid
  | x => solid x

def asD : AV → Option D
  | .d x => some x
  | _ => none

def asBool : AV → Option Bool
  | .d (.bool b) => some b
  | _ => none

def asInt : AV → Option Int
  | .d (.int _ n) => some n
  | _ => none

def arith (op : BinOp) (k : IntKind) (a b : Int) : Option D :=
  match op with
  | .add => some (.int k (k.wrap (a + b)))
  | .sub => some (.int k (k.wrap (a - b)))
  | .mul => some (.int k (k.wrap (a * b)))
  | .quo => if b = 0 then none else some (.int k (k.wrap (a.tdiv b)))
  | .rem => if b = 0 then none else some (.int k (a.tmod b))
  | .and => some (.int k (k.wrap (BitVec.ofInt k.bits a &&& BitVec.ofInt k.bits b).toNat))
  | .or => some (.int k (k.wrap (BitVec.ofInt k.bits a ||| BitVec.ofInt k.bits b).toNat))
  | .xor => some (.int k (k.wrap (BitVec.ofInt k.bits a ^^^ BitVec.ofInt k.bits b).toNat))
  | .eql => some (.bool (a == b))
  | .neq => some (.bool (a != b))
  | .lss => some (.bool (a < b))
  | .leq => some (.bool (a ≤ b))
  | .gtr => some (.bool (a > b))
  | .geq => some (.bool (a ≥ b))
  | _ => none

def binD (op : BinOp) (x y : D) : Option D :=
  match op, x, y with
  | .shl, .int k a, .int _ b => if b < 0 then none else some (.int k (k.wrap (a * 2 ^ (min b.toNat k.bits))))
  | .shr, .int k a, .int _ b => if b < 0 then none else some (.int k (a.fdiv (2 ^ (min b.toNat k.bits))))
  | op, .int k a, .int k' b => if k = k' then arith op k a b else none
  | .eql, .str a, .str b => some (.bool (a.toList == b.toList))
  | .neq, .str a, .str b => some (.bool (!(a.toList == b.toList)))
  | _, _, _ => none

def unD (op : UnOp) (x : D) : Option D :=
  match op, x with
  | .not, .bool b => some (.bool (!b))
  | .neg, .int k n => some (.int k (k.wrap (0 - n)))
  | _, _ => none

/-- The length of a slice or a string. -/
def lenA (O : Nat → Option (Nat × Ob)) : AV → Option Nat
  | .d .nil => some 0
  | .d (.sl n cells) => if n = 1 then some cells.length else none
  | .d (.pin cells) => some cells.length
  | .d (.str s) => some s.size
  | .own id v =>
    match at_ O id v with
    | some (.row cells) => some cells.length
    | some (.mat _ rows) => some rows.length
    | some (.per w _ cells) => some (cells.length / w)
    | _ => none
  | .sub id v _ len => match at_ O id v with | some (.row _) => some len | some (.per _ _ _) => some len | _ => none
  | .inn id v i => match at_ O id v with | some (.mat _ rows) => bnd rows[i]? fun r => some r.length | some (.per _ rows _) => bnd rows[i]? fun r => some r.length | _ => none
  | _ => none

/-- The cells of a slice whose elements are of one cell. -/
def elemsA (O : Nat → Option (Nat × Ob)) : AV → Option (List D)
  | .d .nil => some []
  | .d (.sl n cells) => if n = 1 then some cells else none
  | .d (.pin cells) => some cells
  | .own id v => match at_ O id v with | some (.row cells) => some cells | _ => none
  | .sub id v off len => match at_ O id v with | some (.row cells) => some ((cells.drop off).take len) | _ => none
  | .inn id v i => match at_ O id v with | some (.mat _ rows) => rows[i]? | some (.per _ rows _) => rows[i]? | _ => none
  | _ => none

/-- The bound on lengths that an append may come to. -/
def bound : Nat := 1099511627776

def plainD : D → Bool
  | .int .. | .bool _ | .str _ | .nil => true
  | _ => false

/-- Data that a call may give back. -/
def retD : D → Bool
  | .pin _ => true
  | x => plainD x

/-- Data that a row's cell may hold. -/
def rowD : D → Bool
  | .int .. | .bool _ | .str _ | .nil | .sl .. | .pin _ => true
  | _ => false

/-- What an operation gives: its value, and what it puts into the table. -/
structure Out where
  val : AV
  upd : Obs := []
end Go.Proofs.YtnfhglplafmfiaaGreatE

namespace Go.Proofs.YtnfhglplafmfiaaGreatE
open Go

def setFrom {α : Type} (cells : List α) (off : Nat) : List α → List α
  | [] => cells
  | v :: vs => setFrom (cells.set off v) (off + 1) vs

def fillA (places : List (Nat × Nat)) (cells : List AV) : List (Nat × AV) → Option (List AV)
  | [] => some cells
  | (i, v) :: rest =>
    match places[i]? with
    | some (off, size) => if cellsOk v = true ∧ (cellsOf v).length = size ∧ off + size ≤ cells.length then fillA places (setFrom cells off (cellsOf v)) rest else none
    | none => none

/-- One cell behind an address. -/
def cell1 (O : Nat → Option (Nat × Ob)) : AV → Option AV
  | .d (.cellp cells) => bnd cells[0]? fun c => some (.d c)
  | .ptr id v off =>
    match at_ O id v with
    | some (.box cells) => cells[off]?
    | some (.row cells) => bnd cells[off]? fun c => some (.d c)
    | some (.mat op rows) => if op = false ∧ off < rows.length then some (.inn id v off) else none
    | some (.per _ _ cells) => bnd cells[off]? fun p => match p with | .d x => some (.d x) | .r k => some (.inn id v k)
    | none => none
  | .innp id v i j =>
    match at_ O id v with
    | some (.mat _ rows) => bnd rows[i]? fun r => bnd r[j]? fun c => some (.d c)
    | some (.per _ rows _) => bnd rows[i]? fun r => bnd r[j]? fun c => some (.d c)
    | _ => none
  | _ => none

/-- What a cell over the pool of an object is. -/
def pcOf (id r : Nat) : AV → Option PC
  | .inn id' r' k => if id' = id ∧ r' = r then some (.r k) else none
  | .d x => if plainD x = true then some (.d x) else none
  | _ => none

/-- The rows that cells name, each one once. -/
def ownRows (rows : List (List D)) (cells : List PC) : Option (List (List D)) :=
  bnd (mapO (fun p => match p with | .r k => some k | .d _ => none) cells) fun ks => if ks.Nodup then mapO (fun k => rows[k]?) ks else none

/-- Some cells behind an address. -/
def cellsN (O : Nat → Option (Nat × Ob)) (n : Nat) : AV → Option (List AV)
  | .d (.cellp cells) => if n ≤ cells.length then some ((cells.take n).map .d) else none
  | .ptr id v off =>
    match at_ O id v with
    | some (.box cells) => if off + n ≤ cells.length then some ((cells.drop off).take n) else none
    | _ => none
  | _ => none

/-- The rows that a list of values stands for (each one's own, or nil), and the numbers of those used up. -/
def rowsOf (O : Nat → Option (Nat × Ob)) : AV → Option (List D × List Nat)
  | .own id v => match at_ O id v with | some (.row cells) => some (cells, [id]) | _ => none
  | .d .nil => some ([], [])
  | _ => none

/-- The row in a slice of one row. -/
def tableRow (O : Nat → Option (Nat × Ob)) : AV → Option (List D × List Nat)
  | .own a va => match at_ O a va with | some (.box [c]) => rowsOf O c | _ => none
  | _ => none

structure CRes where
  val : AV
  obs : List Ob
  lent : List (Option Ob)

/-- What belongs to one function: numbers of slots whose literals are rows of one's own; what a loop keeps (by its first region's number: slots, table numbers). -/
structure FAnn where
  own : List Nat := []
  /-- Slots of calls whose rows become data: for good (frz), or for as long as the frame runs (dat). -/
  frz : List Nat := []
  dat : List Nat := []
  /-- Slots of loads whose rows, fixed for good, are read as data. -/
  unp : List Nat := []
  keep : List (Nat × List Nat × List Nat) := []

structure Cx where
  P : Program
  call : FuncId → List AV → List Ob → Option CRes
  lend : List FuncId
  rounds : Nat
  ann : FAnn

/-- A result's references, as the caller sees them: rows of the callee's at numbers of the call's, rows that were lent at their own. -/
def ren (t ver : Nat) (ids : List (Nat × Nat)) : Nat → AV → AV
  | _, .own j _ => if 100000 ≤ j then (match ids[j - 100000]? with | some p => .own p.1 p.2 | none => .undef) else .own (t * 16 + j) ver
  | _, .sub j _ off len => match ids[j - 100000]? with | some p => .sub p.1 p.2 off len | none => .undef
  | _, .ptr j _ off => .ptr (t * 16 + j) ver off
  | n + 1, .agg cs => .agg (cs.map (ren t ver ids n))
  | n + 1, .tuple cs => .tuple (cs.map (ren t ver ids n))
  | _, x => x

def newObs (t ver : Nat) : Nat → List Ob → Obs
  | _, [] => []
  | j, o :: os => (t * 16 + j, some (ver, o)) :: newObs t ver (j + 1) os

/-- The rows of one's own among arguments that are lent (a struct's cells looked through). -/
def cellIds : List AV → List (Nat × Nat)
  | [] => []
  | .own id v :: as => (id, v) :: cellIds as
  | _ :: as => cellIds as

def lendIds : List AV → List (Nat × Nat)
  | [] => []
  | .own id v :: as => (id, v) :: lendIds as
  | .inn id v _ :: as => (id, v) :: lendIds as
  | .ptr id v 0 :: as => (id, v) :: lendIds as
  | .agg cs :: as => cellIds cs ++ lendIds as
  | _ :: as => lendIds as

def flatOb : Ob → Bool
  | .row cells => cells.all retD
  | .mat _ rows => rows.all fun r => r.all retD
  | .per _ rows cells => (rows.all fun r => r.all retD) && cells.all fun p => match p with | .d x => retD x | .r _ => true
  | .box cells => cells.all fun c => match c with | .d x => retD x | _ => false

def lendOb (O : Nat → Option (Nat × Ob)) (p : Nat × Nat) : Option Ob :=
  bnd (at_ O p.1 p.2) fun ob => if flatOb ob = true then some ob else none

def lendCells (O : Nat → Option (Nat × Ob)) : Nat → List AV → Option (List AV × Nat)
  | i, [] => some ([], i)
  | i, .own _ _ :: as => bnd (lendCells O (i + 1) as) fun r => some (.own (100000 + i) 0 :: r.1, r.2)
  | i, a :: as => bnd (view O 6 a) fun d => bnd (lendCells O i as) fun r => some (ofD d :: r.1, r.2)

def lendArgs (O : Nat → Option (Nat × Ob)) : Nat → List AV → Option (List AV)
  | _, [] => some []
  | i, .own _ _ :: as => bnd (lendArgs O (i + 1) as) fun r => some (.own (100000 + i) 0 :: r)
  | i, .inn _ _ j :: as => bnd (lendArgs O (i + 1) as) fun r => some (.inn (100000 + i) 0 j :: r)
  | i, .ptr _ _ 0 :: as => bnd (lendArgs O (i + 1) as) fun r => some (.ptr (100000 + i) 0 0 :: r)
  | i, .agg cs :: as => bnd (lendCells O i cs) fun c => bnd (lendArgs O c.2 as) fun r => some (.agg c.1 :: r)
  | i, a :: as => bnd (view O 6 a) fun d => bnd (lendArgs O i as) fun r => some (ofD d :: r)

def without (O : Nat → Option (Nat × Ob)) (ids : List Nat) : Nat → Option (Nat × Ob) := fun id => if id ∈ ids then none else O id

def lentBack : List (Nat × Nat) → List (Option Ob) → Obs
  | p :: ids, x :: xs => (p.1, match x with | some ob => some (p.2, ob) | none => none) :: lentBack ids xs
  | p :: ids, [] => (p.1, none) :: lentBack ids []
  | [], _ => []

/-- The references in a result: to the rows that come with it, or to rows that were lent. -/
def refsOk (n nl : Nat) : Nat → AV → Bool
  | 0, _ => false
  | _ + 1, .d x => retD x
  | _ + 1, .ptr j v off => decide (j < n) && v == 0 && off == 0
  | _ + 1, .own j v => (decide (j < n) || (decide (100000 ≤ j) && decide (j < 100000 + nl))) && v == 0
  | _ + 1, .sub j v _ _ => decide (100000 ≤ j) && decide (j < 100000 + nl) && v == 0
  | k + 1, .agg cs => cs.all (refsOk n nl k)
  | k + 1, .tuple cs => cs.all (refsOk n nl k)
  | _ + 1, _ => false

/-- Data that is never written to, seen as data. -/
def wk1 : D → D
  | .pin c => .sl 1 c
  | x => x
def wk : D → D
  | .pin c => .sl 1 c
  | .sl n c => .sl n (c.map wk1)
  | x => x

/-- A result's rows as data. -/
def frzV (good : Bool) (obs : List Ob) : Nat → AV → Option AV
  | 0, _ => none
  | _ + 1, .d x => some (.d (if good = true then x else wk x))
  | _ + 1, .own j v => if v = 0 then (match obs[j]? with
    | some (.row cells) => if good = true then (if cells.all plainD = true then some (.d (.pin cells)) else none) else some (.d (wk (.sl 1 cells)))
    | some (.mat _ rows) => if good = true then none else some (.d (.sl 1 (rows.map (.sl 1))))
    | _ => none) else none
  | _ + 1, .ptr j v off => if v = 0 ∧ off = 0 ∧ good = false then (match obs[j]? with
    | some (.per _ rows cells) => bnd (mapO (pcD rows) cells) fun ds => some (.d (.cellp (ds.map wk)))
    | _ => none) else none
  | k + 1, .agg cs => bnd (mapO (frzV good obs k) cs) fun ys => some (.agg ys)
  | k + 1, .tuple cs => bnd (mapO (frzV good obs k) cs) fun ys => some (.tuple ys)
  | _ + 1, _ => none

def evalCallOp (cx : Cx) (O : Nat → Option (Nat × Ob)) (dst : Option Nat) (ver : Nat) (k : FuncId) (args : List AV) : Option Out :=
  if k ∈ cx.lend then
    let ids := lendIds args
    if (ids.map (·.1)).Nodup then
    bnd (mapO (lendOb O) ids) fun obs => bnd (lendArgs (without O (ids.map (·.1))) 0 args) fun as => bnd (cx.call k as obs) fun r =>
      bnd dst fun t => if r.obs.length ≤ 16 ∧ refsOk r.obs.length ids.length 3 r.val = true ∧ r.obs.all flatOb = true ∧ r.lent.all (fun x => match x with | some ob => flatOb ob | none => true) = true then
        some { val := ren t ver ids 3 r.val, upd := newObs t ver 0 r.obs ++ lentBack ids r.lent } else none
    else none
  else
    bnd (mapO (view O 6) args) fun ds => bnd (cx.call k (ds.map ofD) []) fun r =>
      bnd dst fun t => if t ∈ cx.ann.frz ∨ t ∈ cx.ann.dat then (if r.obs.length ≤ 16 ∧ r.lent.isEmpty = true then bnd (frzV (decide (t ∈ cx.ann.frz)) r.obs 3 r.val) fun y => some { val := y } else none) else
        if r.obs.length ≤ 16 ∧ refsOk r.obs.length 0 3 r.val = true ∧ r.obs.all flatOb = true ∧ r.lent.isEmpty = true then some { val := ren t ver [] 3 r.val, upd := newObs t ver 0 r.obs } else none

/-- The zero of an element type is one cell. -/
def zer1 (P : Program) (e : TypeId) : Bool := match zer P e with | some z => cellsOk z && (cellsOf z).length == 1 | none => false

/-- The length of a slice, of elements of any size. -/
def lenC (O : Nat → Option (Nat × Ob)) : AV → Option Nat
  | .d (.sl n cells) => if 0 < n then some (cells.length / n) else none
  | x => lenA O x

/-- Where a row, or a part of one, stands: number, version, all cells, from where, how many. -/
def place (O : Nat → Option (Nat × Ob)) : AV → Option (Nat × Nat × List D × Nat × Nat)
  | .own id v => match at_ O id v with | some (.row cells) => some (id, v, cells, 0, cells.length) | _ => none
  | .sub id v off len => match at_ O id v with | some (.row cells) => if off + len ≤ cells.length then some (id, v, cells, off, len) else none | _ => none
  | _ => none

/-- Where a slice over a pool, or a part of one, stands. -/
def placeP (O : Nat → Option (Nat × Ob)) : AV → Option (Nat × Nat × List (List D) × List PC × Nat × Nat)
  | .own id v => bnd (at_ O id v) fun ob => bnd (asPer ob) fun p => if p.1 = 1 then some (id, v, p.2.1, p.2.2, 0, p.2.2.length) else none
  | .sub id v off len => bnd (at_ O id v) fun ob => bnd (asPer ob) fun p => if p.1 = 1 ∧ off + len ≤ p.2.2.length then some (id, v, p.2.1, p.2.2, off, len) else none
  | _ => none

/-- A row fixed for good, read as data. -/
def unpin : Bool → AV → AV
  | true, .d (.pin cells) => .d (.sl 1 cells)
  | _, x => x

/-- A count of zeros put to no slice at all (slices.Grow). -/
def grown (cx : Cx) (dst : Option Nat) (ver : Nat) (e t' : TypeId) : AV → AV → Option Out
  | .d .nil, .d (.int .i64 K) =>
    match tk cx.P t' with
    | .int _ => if sz cx.P e = 1 ∧ byts cx.P e ≤ 64 ∧ 0 < K ∧ K ≤ 1099511627776 then
        bnd dst fun d => bnd (bnd (zer cx.P e) asD) fun z =>
        if plainD z = true then some { val := .own (d * 16) ver, upd := [(d * 16, some (ver, .row (List.replicate K.toNat z)))] } else none
      else none
    | _ => none
  | _, _ => none

def evalBuiltin (cx : Cx) (O : Nat → Option (Nat × Ob)) (dst : Option Nat) (ver : Nat) (b : Builtin) (tys : List TypeId) (args : List AV) : Option Out :=
  match b, args with
  | .len, [x] => match tys with
    | [t] => match tk cx.P t with
      | .slice _ => match x with
        | .d (.str _) => none
        | x => bnd (lenC O x) fun n => some { val := .d (.int .i64 n) }
      | .string => match x with
        | .d (.str s) => some { val := .d (.int .i64 s.size) }
        | _ => none
      | _ => none
    | _ => none
  | .max, [.d (.int k x), .d (.int _ y)] => some { val := .d (.int k (if y > x then y else x)) }
  | .min, [.d (.int k x), .d (.int _ y)] => some { val := .d (.int k (if y < x then y else x)) }
  | .append, [x, y] => match tys with
    | [t, t'] => match tk cx.P t with
      | .slice e => if t = t' ∧ sz cx.P e = 1 ∧ byts cx.P e ≤ 64 ∧ zer1 cx.P e = true then
          match x with
          | .own id v =>
            match at_ O id v with
            | some (.row cells) => bnd (elemsA O y) fun more =>
              if more.all rowD = true ∧ cells.length + more.length ≤ bound then some { val := .own id ver, upd := [(id, some (ver, .row (cells ++ more)))] } else none
            | some (.mat op rows) => bnd (tableRow O y) fun (r, used) =>
              if rows.length + 1 ≤ bound then some { val := .own id ver, upd := (id, some (ver, .mat op (rows ++ [r]))) :: used.map fun i => (i, none) } else none
            | _ => none
          | .d .nil => bnd dst fun t =>
            match tk cx.P e with
            | .slice _ => bnd (tableRow O y) fun (r, used) =>
              some { val := .own (t * 16) ver, upd := (t * 16, some (ver, .mat true [r])) :: used.map fun i => (i, none) }
            | _ => bnd (elemsA O y) fun more =>
              if more.all plainD = true ∧ 0 < more.length ∧ more.length ≤ bound then some { val := .own (t * 16) ver, upd := [(t * 16, some (ver, .row more))] } else none
          | _ => none
        else grown cx dst ver e t' x y
      | _ => none
    | _ => none
  | .cap, [.d .nil] => match tys with
    | [t] => match tk cx.P t with
      | .slice _ => some { val := .d (.int .i64 0) }
      | _ => none
    | _ => none
  | .copy, [x, y] => match tys with
    | [t, _] => match tk cx.P t with
      | .slice e => if sz cx.P e = 1 then bnd (place O x) fun p => bnd (elemsA O y) fun more =>
          if more.all plainD = true then some { val := .d (.int .i64 (min more.length p.2.2.2.2 : Nat)), upd := [(p.1, some (p.2.1, .row (setFrom p.2.2.1 p.2.2.2.1 (more.take (min more.length p.2.2.2.2)))))] } else none
        else none
      | _ => none
    | _ => none
  | .clear, [x] => match tys with
    | [t] => match tk cx.P t with
      | .slice e => if sz cx.P e = 1 then if zer cx.P e matches some (.d .nil) then bnd (placeP O x) fun p =>
          some { val := .undef, upd := [(p.1, some (p.2.1, .per 1 p.2.2.1 (setFrom p.2.2.2.1 p.2.2.2.2.1 (List.replicate p.2.2.2.2.2 (.d .nil)))))] } else bnd (place O x) fun p => bnd (bnd (zer cx.P e) asD) fun z =>
          if plainD z = true then some { val := .undef, upd := [(p.1, some (p.2.1, .row (setFrom p.2.2.1 p.2.2.2.1 (List.replicate p.2.2.2.2 z))))] } else none
        else none
      | _ => none
    | _ => none
  | _, _ => none

/-- Whether a slice is nil. -/
def nilD : D → Option Bool
  | .nil => some true
  | .sl n cells => if n = 1 ∧ 0 < cells.length then some false else none
  | .pin cells => if 0 < cells.length then some false else none
  | _ => none

/-- A bound of a slice expression. -/
def optI (look : Nat → Option AV) (dflt : Int) : Option Operand → Option Int
  | none => some dflt
  | some a => bnd (opnd look a) asInt

def evalOp (cx : Cx) (look : Nat → Option AV) (O : Nat → Option (Nat × Ob)) (ver : Nat) (o : Oper) : Option Out :=
  match o.op with
  | .move x => bnd (opnd look x) fun v => some { val := v }
  | .assign x => bnd (opnd look x) fun v => some { val := v }
  | .pick c a b => bnd (bnd (opnd look c) asBool) fun c => bnd (if c = true then opnd look a else opnd look b) fun v => some { val := v }
  | .alloc e => bnd (zer cx.P e) fun z => bnd o.dst fun t => if cellsOk z = true then some { val := .ptr (t * 16) ver 0, upd := [(t * 16, some (ver, .box (cellsOf z)))] } else none
  | .box _ x => bnd (opnd look x) fun z => bnd o.dst fun t => if t ∈ cx.ann.own then (match z with
      | .agg [.d m, .own rid rv] => match at_ O rid rv with
        | some (.row cells) => if plainD m = true then some { val := .ptr (t * 16) ver 0, upd := (t * 16, some (ver, .per 2 [cells] [.d m, .r 0])) :: [rid].map fun i => (i, none) } else none
        | _ => none
      | _ => none) else if cellsOk z = true then some { val := .ptr (t * 16) ver 0, upd := [(t * 16, some (ver, .box (cellsOf z)))] } else none
  | .build t parts =>
    match tk cx.P t with
    | .struct fs => if fs.all (fun f => decide (0 < sz cx.P f.2)) = true then bnd (zer cx.P t) fun z => if cellsOk z = true then bnd (mapO (fun (p : Nat × Operand) => bnd (opnd look p.2) fun v => some (p.1, v)) parts.toList) fun ps =>
      bnd (fillA (fs.map fun f => (f.1, sz cx.P f.2)) (cellsOf z) ps) fun cs => some { val := .agg cs } else none else none
    | _ => none
  | .buildSlice t len parts =>
    match tk cx.P t with
    | .slice e =>
      bnd (mapO (fun (p : Nat × Operand) => opnd look p.2) parts.toList) fun vs =>
      if (parts.toList.map (·.1)) = List.range len ∧ len ≤ 1000 ∧ 0 < sz cx.P e ∧ sz cx.P e ≤ 1000 ∧ (zer cx.P e).isSome = true ∧ vs.all (fun v => cellsOk v && (cellsOf v).length == sz cx.P e) = true then
        match tk cx.P e with
        | .slice _ => bnd o.dst fun t => if t ∈ cx.ann.own then bnd (mapO asD (vs.flatMap cellsOf)) fun ds =>
              if sz cx.P e = 1 ∧ ds.all rowD = true then some { val := .own (t * 16) ver, upd := [(t * 16, some (ver, .row ds))] } else none
            else if sz cx.P e = 1 then if len = 0 then some { val := .own (t * 16) ver, upd := [(t * 16, some (ver, .mat true []))] }
            else some { val := .own (t * 16) ver, upd := [(t * 16, some (ver, .box (vs.flatMap cellsOf)))] } else none
        | _ => bnd (mapO asD (vs.flatMap cellsOf)) fun ds =>
          bnd o.dst fun t => if t ∈ cx.ann.own ∧ sz cx.P e = 1 ∧ ds.all plainD = true then some { val := .own (t * 16) ver, upd := [(t * 16, some (ver, .row ds))] }
            else some { val := .d (.sl (sz cx.P e) ds) }
      else none
    | _ => none
  | .load t a =>
    match tk cx.P t with
    | .struct _ => bnd (opnd look a) fun p => bnd (cellsN O (sz cx.P t) p) fun cs => some { val := .agg cs }
    | .other => none
    | .slice _ => bnd (opnd look a) fun p => bnd (cell1 O p) fun c => some { val := unpin (o.dst.any (fun t => decide (t ∈ cx.ann.unp))) c }
    | _ => bnd (opnd look a) fun p => bnd (cell1 O p) fun c => some { val := c }
  | .store t a x =>
    bnd (opnd look a) fun p => bnd (opnd look x) fun v => if cellsOk v = true ∧ 0 < sz cx.P t ∧ (cellsOf v).length = sz cx.P t then
      match p with
      | .ptr id r off =>
        match at_ O id r with
        | some (.box cells) => if off + (cellsOf v).length ≤ cells.length then some { val := .undef, upd := [(id, some (r, .box (setFrom cells off (cellsOf v))))] } else none
        | some (.row cells) => if off < cells.length then (match cellsOf v with | [.d c] => if rowD c = true then some { val := .undef, upd := [(id, some (r, .row (cells.set off c)))] } else none | _ => none) else none
        | some (.mat op rows) => if op = true then if off < rows.length then bnd (rowsOf O v) fun (cs, used) => some { val := .undef, upd := (id, some (r, .mat true (rows.set off cs))) :: used.map fun i => (i, none) } else none
            else if off < rows.length then (match cellsOf v with | [c] => bnd (pcOf id r c) fun p => some { val := .undef, upd := [(id, some (r, .per 1 rows ((idxR rows.length).set off p)))] } | _ => none) else none
        | some (.per w rows cells) => if off < cells.length then (match cellsOf v with | [c] => bnd (pcOf id r c) fun p => some { val := .undef, upd := [(id, some (r, .per w rows (cells.set off p)))] } | _ => none) else none
        | none => none
      | .innp id r i j =>
        match at_ O id r with
        | some (.mat op rows) => bnd rows[i]? fun row => if j < row.length then (match cellsOf v with | [.d c] => if rowD c = true then some { val := .undef, upd := [(id, some (r, .mat op (rows.set i (row.set j c))))] } else none | _ => none) else none
        | some (.per w rows cells) => bnd rows[i]? fun row => if j < row.length then (match cellsOf v with | [.d c] => if rowD c = true then some { val := .undef, upd := [(id, some (r, .per w (rows.set i (row.set j c)) cells))] } else none | _ => none) else none
        | _ => none
      | _ => none
    else none
  | .binOp op t x y _ => bnd (bnd (opnd look x) asD) fun a => bnd (bnd (opnd look y) asD) fun b =>
    match op, a, b, tk cx.P t with
    | .eql, .bool p, .bool q, .bool => some { val := .d (.bool (p == q)) }
    | .neq, .bool p, .bool q, .bool => some { val := .d (.bool (!(p == q))) }
    | .eql, x, .nil, .slice _ => bnd (nilD x) fun b => some { val := .d (.bool b) }
    | .neq, x, .nil, .slice _ => bnd (nilD x) fun b => some { val := .d (.bool (!b)) }
    | _, _, _, _ => bnd (binD op a b) fun c => some { val := .d c }
  | .unOp op _ x => bnd (bnd (opnd look x) asD) fun a => bnd (unD op a) fun c => some { val := .d c }
  | .convert s t x => bnd (bnd (opnd look x) asInt) fun n =>
    match tk cx.P s, tk cx.P t with
    | .int _, .int k => some { val := .d (.int k (k.wrap n)) }
    | _, _ => none
  | .makeSlice t l c =>
    match tk cx.P t with
    | .slice e => bnd (bnd (opnd look l) asInt) fun l => bnd (bnd (opnd look c) asInt) fun c =>
      if 0 ≤ l ∧ l ≤ c ∧ c ≤ 1099511627776 ∧ byts cx.P e ≤ 64 ∧ sz cx.P e = 1 then
        match tk cx.P e with
        | .slice _ => bnd o.dst fun t => match zer cx.P e with
          | some (.d .nil) => if t ∈ cx.ann.own then some { val := .own (t * 16) ver, upd := [(t * 16, some (ver, .row (List.replicate l.toNat .nil)))] } else some { val := .own (t * 16) ver, upd := [(t * 16, some (ver, .mat true (List.replicate l.toNat [])))] }
          | _ => none
        | _ => bnd (bnd (zer cx.P e) asD) fun z => bnd o.dst fun t => if plainD z = true then some { val := .own (t * 16) ver, upd := [(t * 16, some (ver, .row (List.replicate l.toNat z)))] } else none
      else none
    | _ => none
  | .slice t x lo hi mx =>
    match mx with
    | some _ => none
    | none =>
      match tk cx.P t with
      | .slice e => if sz cx.P e = 1 then
          bnd (opnd look x) fun v => bnd (lenA O v) fun n =>
          bnd (optI look 0 lo) fun l => bnd (optI look n hi) fun h =>
          if 0 ≤ l ∧ l ≤ h ∧ h ≤ n then
            match v with
            | .d .nil => some { val := .d .nil }
            | .d (.sl _ cells) => some { val := .d (.sl 1 ((cells.drop l.toNat).take (h.toNat - l.toNat))) }
            | .d (.pin cells) => some { val := .d (.pin ((cells.drop l.toNat).take (h.toNat - l.toNat))) }
            | .own id r => match at_ O id r with | some (.row cells) => if o.dst.any (fun t => decide (t ∈ cx.ann.own)) = true then (if l = 0 then some { val := .own id ver, upd := [(id, some (ver, .row (cells.take h.toNat)))] } else none) else some { val := .sub id r l.toNat (h.toNat - l.toNat) } | some (.per _ _ _) => some { val := .sub id r l.toNat (h.toNat - l.toNat) } | some (.mat op _) => if op = false then some { val := .sub id r l.toNat (h.toNat - l.toNat) } else none | _ => none
            | .sub id r off _ => bnd (at_ O id r) fun _ => some { val := .sub id r (off + l.toNat) (h.toNat - l.toNat) }
            | _ => none
          else none
        else none
      | _ => none
  | .fieldAddr s x f =>
    match tk cx.P s with
    | .struct fs => bnd fs[f]? fun (off, ty) => if sz cx.P ty = 0 then none else bnd (opnd look x) fun p =>
      match p with
      | .ptr id v o => bnd (at_ O id v) fun _ => some { val := .ptr id v (o + off) }
      | .d (.cellp cells) => some { val := .d (.cellp (cells.drop off)) }
      | _ => none
    | _ => none
  | .field s x f =>
    match tk cx.P s with
    | .struct fs => bnd fs[f]? fun (off, ty) =>
      match tk cx.P ty with
      | .struct _ | .other => none
      | _ => bnd (opnd look x) fun v => match v with | .agg cells => bnd cells[off]? fun c => some { val := c } | _ => none
    | _ => none
  | .indexAddr t x i =>
    match tk cx.P t with
    | .slice e => bnd (opnd look x) fun v => bnd (bnd (opnd look i) asInt) fun i =>
      if 0 ≤ i then
        match v with
        | .d (.sl n cells) => if n = sz cx.P e ∧ i.toNat * n < cells.length then some { val := .d (.cellp (cells.drop (i.toNat * n))) } else none
        | .d (.pin cells) => if sz cx.P e = 1 ∧ i.toNat < cells.length then some { val := .d (.cellp (cells.drop i.toNat)) } else none
        | .own id r => if sz cx.P e = 1 then bnd (lenA O v) fun n => if i < n then some { val := .ptr id r i.toNat } else none else none
        | .sub id r off n => if sz cx.P e = 1 ∧ i < n then bnd (at_ O id r) fun _ => some { val := .ptr id r (off + i.toNat) } else none
        | .inn id r k => if sz cx.P e = 1 then bnd (lenA O v) fun n => if i < n then some { val := .innp id r k i.toNat } else none else none
        | _ => none
      else none
    | _ => none
  | .index t x i =>
    match tk cx.P t with
    | .string => bnd (opnd look x) fun v => bnd (bnd (opnd look i) asInt) fun i =>
      match v with
      | .d (.str s) => if 0 ≤ i then bnd s[i.toNat]? fun b => some { val := .d (.int .u8 b.toNat) } else none
      | _ => none
    | _ => none
  | .extract x i => bnd (opnd look x) fun v => match v with | .tuple vs => bnd vs[i]? fun c => some { val := c } | _ => none
  | .makeFunc fn first captured =>
    match fn with
    | .func f => bnd (mapO (opnd look) first.toList) fun a => bnd (mapO (opnd look) captured.toList) fun b => some { val := .clo f a b }
    | _ => none
  | .nilCheck x => bnd (opnd look x) fun v =>
    match v with
    | .ptr id r _ => bnd (at_ O id r) fun _ => some { val := v }
    | .d (.cellp _) | .clo .. | .d (.clo ..) => some { val := v }
    | _ => none
  | .call c => bnd (mapO (opnd look) c.args.toList) fun args =>
    match c.callee with
    | .builtin b => evalBuiltin cx O o.dst ver b c.argTypes.toList args
    | .value f => bnd (opnd look f) fun fv =>
      match fv with
      | .d (.clo k a b) => evalCallOp cx O o.dst ver k (a.map .d ++ args ++ b.map .d)
      | .clo k a b => evalCallOp cx O o.dst ver k (a ++ args ++ b)
      | _ => none
    | .invoke _ _ => none
  | _ => none

/-- The numbers that a value leads to. -/
def reach (O : Nat → Option (Nat × Ob)) : Nat → AV → List Nat
  | 0, _ => []
  | n + 1, .own id _ => id :: (match O id with | some (_, .box cs) => cs.flatMap (reach O n) | _ => [])
  | n + 1, .ptr id _ _ => id :: (match O id with | some (_, .box cs) => cs.flatMap (reach O n) | _ => [])
  | _ + 1, .sub id _ _ _ => [id]
  | _ + 1, .inn id _ _ => [id]
  | _ + 1, .innp id _ _ _ => [id]
  | n + 1, .agg cs => cs.flatMap (reach O n)
  | n + 1, .tuple cs => cs.flatMap (reach O n)
  | n + 1, .clo _ a b => a.flatMap (reach O n) ++ b.flatMap (reach O n)
  | _ + 1, _ => []

def reachO (O : Nat → Option (Nat × Ob)) (look : Nat → Option AV) (x : Operand) : List Nat := match opnd look x with | some v => reach O 9 v | none => []

/-- The numbers that an operation looks at. -/
def touch (O : Nat → Option (Nat × Ob)) (look : Nat → Option AV) (o : Oper) : List Nat :=
  match o.op with
  | .load _ x | .fieldAddr _ x _ | .nilCheck x => reachO O look x
  | .store _ x y | .indexAddr _ x y => reachO O look x ++ reachO O look y
  | .slice _ x _ _ _ => reachO O look x
  | .box _ x => match opnd look x with | some (.agg cs) => reach O 9 (.agg cs) | _ => []
  | .call c => (match c.callee with | .value f => reachO O look f | _ => []) ++ c.args.toList.flatMap (reachO O look)
  | _ => []

def putDst (dst : Option Nat) (x : AV) (env : Env) : Env :=
  match dst with
  | some t => (t, x) :: env
  | none => env

/-- What an operation that others wait for gave: nothing, if it was passed over. -/
def guardVal : AV → Option (Option Bool)
  | .d (.bool b) => some (some b)
  | .tuple [] => some none
  | _ => none

def guardOk (ops : Array Oper) (look : Nat → Option AV) (o : Oper) : Option Bool :=
  match o.guard with
  | none => some true
  | some (j, want) => bnd (bnd ops[j]? (·.dst)) fun t => bnd (bnd (look t) guardVal) fun b => some (b == some want)

def evalOne (cx : Cx) (ops : Array Oper) (ver : Nat) (o : Oper) (st : St) : Option St :=
  bnd (guardOk ops st.look o) fun g =>
  if g = true then bnd (evalOp cx st.look st.ob ver o) fun out => some { st with env := putDst o.dst out.val st.env, obs := out.upd ++ st.obs }
  else some { st with env := putDst o.dst (.tuple []) st.env }

def evalOps (cx : Cx) (ops : Array Oper) : Nat → List Oper → St → Option St
  | _, [], st => some st
  | i, o :: os, st => bnd (evalOne cx ops (st.g + i) o st) (evalOps cx ops (i + 1) os)

def fin (n : Nat) (st : St) : Option St := some { st with g := st.g + n }

/-- What one operation of a region of open order gave. -/
structure Rs where
  val : AV
  upd : Obs
  tch : List Nat

def evalRs (cx : Cx) (ops : Array Oper) (ver : Nat) (o : Oper) (st : St) : Option Rs :=
  bnd (guardOk ops st.look o) fun g =>
  if g = true then bnd (evalOp cx st.look st.ob ver o) fun out => some ⟨out.val, out.upd, touch st.ob st.look o⟩ else some ⟨.tuple [], [], []⟩

def putRs (st : St) (o : Oper) (r : Rs) : St := { st with env := putDst o.dst r.val st.env, obs := r.upd ++ st.obs }

def evalDraw (cx : Cx) (ops : Array Oper) : Nat → List Oper → St → List Rs → Option (St × List Rs)
  | _, [], st, acc => some (st, acc)
  | i, o :: os, st, acc => bnd (evalRs cx ops (st.g + i) o st) fun r => evalDraw cx ops (i + 1) os (putRs st o r) (acc ++ [r])

def keys (o : Obs) : List Nat := o.map (·.1)

def confl (a b : Rs) : Bool := (keys a.upd).any (fun x => b.tch.contains x || (keys b.upd).contains x) || (keys b.upd).any (fun x => a.tch.contains x)

def confWith (i : Nat) (r : Rs) : Nat → List Rs → List (Nat × Nat)
  | _, [] => []
  | j, s :: ss => if confl r s = true then (i, j) :: confWith i r (j + 1) ss else confWith i r (j + 1) ss

def confAll : Nat → List Rs → List (Nat × Nat)
  | _, [] => []
  | i, r :: rs => confWith i r (i + 1) rs ++ confAll (i + 1) rs

/-- Whether the order binds i before j. -/
def ancB (ops : Array Oper) : Nat → Nat → Nat → Bool
  | 0, _, _ => false
  | n + 1, i, j => match ops[j]? with
    | none => false
    | some o => o.after.any fun e => Region.binds .any e && (e.on == i || ancB ops n i e.on)

def confOk (ops : Array Oper) (l : List (Nat × Nat)) : Bool := l.all fun p => ancB ops 6 p.1 p.2

def drawn (ops : Array Oper) (p : St × List Rs) : Option St := if confOk ops (confAll 0 p.2) = true then some p.1 else none

def okDraw (ops : Array Oper) : Bool :=
  decide ((ops.toList.filterMap (·.dst)).Nodup) &&
  (List.range ops.size).all fun j => match ops[j]? with
    | none => true
    | some o => o.after.all (fun e => !Region.binds .any e || decide (e.on < j)) && (match o.op with | .select .. => false | _ => true) &&
      (o.looksAt ops).all fun t => (List.range ops.size).all fun i => match ops[i]? with
        | none => true
        | some p => p.dst != some t || i == j || ancB ops 6 i j || ancB ops 6 j i

def okCode (nt : Nat) : Code → Bool
  | .region _ ops draw => ops.all (fun o => match o.dst with | some d => decide (d < nt) | none => true) && (!draw || okDraw ops)
  | .seq a b => okCode nt a && okCode nt b
  | .cond _ a b => okCode nt a && okCode nt b
  | .block _ a => okCode nt a
  | .loop a => okCode nt a
  | _ => true

inductive Ex where
  | normal
  | exit (id : Nat)
  | ret

def andThen (f : St → Option (Ex × St)) : Ex × St → Option (Ex × St)
  | (.normal, st) => f st
  | (e, st) => some (e, st)

def inBlock (id : Nat) : Ex × St → Option (Ex × St)
  | (.exit j, st) => if j = id then some (.normal, st) else some (.exit j, st)
  | (e, st) => some (e, st)

def normal (st : St) : Option (Ex × St) := some (.normal, st)

def keepEnv (env : Env) : List Nat → Env
  | [] => []
  | t :: ts => match lookL env t with | some x => (t, x) :: keepEnv env ts | none => keepEnv env ts

def keepObs (o : Obs) : List Nat → Obs
  | [] => []
  | t :: ts => match obsL o t with | some x => (t, some x) :: keepObs o ts | none => keepObs o ts

def restrict (k : Option (List Nat × List Nat)) (st : St) : St :=
  match k with
  | some (ts, ids) => { st with env := keepEnv st.env ts, obs := keepObs st.obs ids }
  | none => st

def iter (f : St → Option (Ex × St)) (r : St → St) : Nat → St → Option (Ex × St)
  | 0, _ => none
  | n + 1, st => bnd (f (r st)) (andThen (iter f r n))

/-- The number of the first region of a text. -/
def firstId : Code → Nat
  | .region id _ _ => id
  | .seq a _ => firstId a
  | .block _ a => firstId a
  | .loop a => firstId a
  | .cond _ a _ => firstId a
  | _ => 0

def evalCode (cx : Cx) : Code → St → Option (Ex × St)
  | .skip, st => some (.normal, st)
  | .region _ ops draw, st => if draw = true then bnd (bnd (bnd (evalDraw cx ops 0 ops.toList st []) (drawn ops)) (fin ops.size)) normal else bnd (bnd (evalOps cx ops 0 ops.toList st) (fin ops.size)) normal
  | .seq a b, st => bnd (evalCode cx a st) (andThen (evalCode cx b))
  | .cond c a b, st => bnd (bnd (opnd st.look c) asBool) fun t => if t = true then evalCode cx a st else evalCode cx b st
  | .block id a, st => bnd (evalCode cx a st) (inBlock id)
  | .loop a, st => iter (evalCode cx a) (restrict (lookL cx.ann.keep (firstId a))) cx.rounds st
  | .exit id, st => some (.exit id, st)
  | .ret, st => some (.ret, st)
  | .label _, st => some (.normal, st)
  | _, _ => none

structure FB where
  body : Code
  ntmps : Nat
  results : List ResultVar

/-- The results as the caller gets them: rows of the callee's numbered from 0 on. -/
def pack (O : Nat → Option (Nat × Ob)) : Nat → AV → List (Nat × Ob) → Option (AV × List (Nat × Ob))
  | 0, _, _ => none
  | _ + 1, .d x, acc => if retD x = true then some (.d x, acc) else none
  | _ + 1, .ptr id v off, acc => if 100000 ≤ id then none else if id ∈ acc.map (·.1) then none else
    match at_ O id v with
    | some (.box cells) => if off = 0 ∧ flatOb (.box cells) = true then some (.ptr acc.length 0 0, acc ++ [(id, .box cells)]) else none
    | some (.per w rows cells) => if off = 0 ∧ flatOb (.per w rows cells) = true then some (.ptr acc.length 0 0, acc ++ [(id, .per w rows cells)]) else none
    | _ => none
  | _ + 1, .own id v, acc =>
    if 100000 ≤ id then (match at_ O id v with | some ob => if v = 0 ∧ flatOb ob = true then some (.own id 0, acc) else none | none => none) else
    if id ∈ acc.map (·.1) then none else
    match at_ O id v with
    | some (.row cells) => if flatOb (.row cells) = true then some (.own acc.length 0, acc ++ [(id, .row cells)]) else none
    | some (.mat _ rows) => if flatOb (.mat false rows) = true then some (.own acc.length 0, acc ++ [(id, .mat false rows)]) else none
    | some (.per w rows cells) => if w = 1 then bnd (ownRows rows cells) fun rs => if flatOb (.mat false rs) = true then some (.own acc.length 0, acc ++ [(id, .mat false rs)]) else none else none
    | _ => none
  | _ + 1, .sub id v off len, acc =>
    if 100000 ≤ id then (match at_ O id v with | some (.row _) => if v = 0 then some (.sub id 0 off len, acc) else none | some (.per _ _ _) => if v = 0 then some (.sub id 0 off len, acc) else none | _ => none) else
    if id ∈ acc.map (·.1) then none else
    match at_ O id v with
    | some (.row cells) => if flatOb (.row ((cells.drop off).take len)) = true then some (.own acc.length 0, acc ++ [(id, .row ((cells.drop off).take len))]) else none
    | some (.per w rows cells) => if w = 1 then bnd (ownRows rows ((cells.drop off).take len)) fun rs => if flatOb (.mat false rs) = true then some (.own acc.length 0, acc ++ [(id, .mat false rs)]) else none else none
    | _ => none
  | n + 1, .agg cs, acc => bnd (go (pack O n) cs acc) fun (ys, acc) => some (.agg ys, acc)
  | n + 1, .tuple cs, acc => bnd (go (pack O n) cs acc) fun (ys, acc) => some (.tuple ys, acc)
  | _ + 1, _, _ => none
where
  go (f : AV → List (Nat × Ob) → Option (AV × List (Nat × Ob))) : List AV → List (Nat × Ob) → Option (List AV × List (Nat × Ob))
    | [], acc => some ([], acc)
    | x :: xs, acc => bnd (f x acc) fun (y, acc) => bnd (go f xs acc) fun (ys, acc) => some (y :: ys, acc)

def resVal (P : Program) (st : St) : ResultVar → Option AV
  | .tmp t => st.look t
  | .cell a t => bnd (st.look a) fun p =>
    match tk P t with
    | .struct _ => bnd (cellsN st.ob (sz P t) p) fun cs => some (.agg cs)
    | .other => none
    | _ => cell1 st.ob p

def resAll (P : Program) (st : St) (rs : List ResultVar) : Option AV :=
  bnd (mapO (resVal P st) rs) fun vs => match vs with | [x] => some x | vs => some (.tuple vs)

def argEnv : Nat → List AV → Env
  | _, [] => []
  | i, a :: as => (i, a) :: argEnv (i + 1) as

def lentObs : Nat → List Ob → Obs
  | _, [] => []
  | i, o :: os => (100000 + i, some (0, o)) :: lentObs (i + 1) os

def lentEnd (O : Nat → Option (Nat × Ob)) : Nat → List Ob → List (Option Ob)
  | _, [] => []
  | i, _ :: os => (match at_ O (100000 + i) 0 with | some ob => if flatOb ob = true then some ob else none | none => none) :: lentEnd O (i + 1) os

def fbody (P : Program) (k : FuncId) : Option FB :=
  match P.funcs[k]? with
  | some fn => if fn.name == "runtime.NumGoroutine" then none else match fn.body with
    | some c => if okCode fn.ntmps c = true then some { body := c, ntmps := fn.ntmps, results := fn.results.toList } else none
    | none => none
  | none => none

structure Ann where
  lend : List FuncId
  fn : FuncId → FAnn

def callRes (P : Program) (nl : List Ob) : Ex × St → List ResultVar → Option CRes
  | (.exit _, _), _ => none
  | (_, st), rs => bnd (resAll P st rs) fun v => bnd (pack st.ob 3 v []) fun (v, obs) => if obs.length ≤ 16 then some { val := v, obs := obs.map (·.2), lent := lentEnd st.ob 0 nl } else none

def evalCall (P : Program) (A : Ann) : Nat → FuncId → List AV → List Ob → Option CRes
  | 0, _, _, _ => none
  | n + 1, k, args, lent => bnd (fbody P k) fun fb =>
    bnd (evalCode { P := P, call := evalCall P A n, lend := A.lend, rounds := n, ann := A.fn k } fb.body { env := argEnv 0 args, obs := lentObs 0 lent, g := 1 }) fun r =>
    callRes P lent r fb.results
end Go.Proofs.YtnfhglplafmfiaaGreatE

namespace Go.Proofs.YtnfhglplafmfiaaGreatE
open Go

/-- Where an object lies: its first cell, its length and room, the inner rows' values, all its blocks. -/
structure Loc where
  block : Nat
  base : Nat
  len : Nat
  cap : Nat
  inner : List Value
  fp : List Nat

abbrev Heap := Array Obj

def cellAt (h : Heap) (b off : Nat) : Option Value :=
  match h[b]? with
  | some (.cells c _ _) => c[off]?
  | _ => none

theorem cell?_eq (w : World) (b off : Nat) : w.cell? ⟨b, off, none⟩ = cellAt w.heap b off := by
  simp only [World.cell?, cellAt]
  cases w.heap[b]? with
  | none => rfl
  | some o => cases o <;> rfl

/-- A value's cells stand in blocks that nobody writes to. -/
def Mem (F : Nat → Prop) (h : Heap) (A : Option Addr) (vs : List Value) : Prop :=
  ∀ (i : Nat) (v : Value), vs[i]? = some v → ∃ b off, A = some ⟨b, off, none⟩ ∧ F b ∧ cellAt h b (off + i) = some v

def pv : D → Value
  | .int k n => .int k n
  | .bool b => .bool b
  | .str s => .string s
  | .nil => .slice none 0 0
  | _ => .tuple #[]

/-- Blocks that nobody writes to while the frame's text runs (f); blocks that nobody writes to ever after (p). -/
structure Frz where
  f : Nat → Prop
  p : Nat → Prop
instance : CoeFun Frz (fun _ => Nat → Prop) := ⟨Frz.f⟩

inductive DRep (F : Frz) (h : Heap) : D → Value → Prop where
  | undef (v : Value) : DRep F h .undef v
  | int (k : IntKind) (n : Int) : DRep F h (.int k n) (.int k n)
  | bool (b : Bool) : DRep F h (.bool b) (.bool b)
  | str (s : ByteArray) : DRep F h (.str s) (.string s)
  | nil : DRep F h .nil (.slice none 0 0)
  | sl (s : Nat) (cells : List D) (A : Option Addr) (len cap : Nat) (vs : List Value) (hl : cells.length = len * s) (hc : len ≤ cap)
      (hv : cells.length = vs.length) (hm : Mem F.f h A vs) (hr : ∀ (i : Nat) (x : D) (v : Value), cells[i]? = some x → vs[i]? = some v → DRep F h x v) : DRep F h (.sl s cells) (.slice A len cap)
  | cellp (cells : List D) (b off : Nat) (vs : List Value) (hv : cells.length = vs.length) (hm : Mem F.f h (some ⟨b, off, none⟩) vs)
      (hr : ∀ (i : Nat) (x : D) (v : Value), cells[i]? = some x → vs[i]? = some v → DRep F h x v) : DRep F h (.cellp cells) (.pointer (some ⟨b, off, none⟩))
  | agg (cells : List D) (vs : Array Value) (hv : cells.length = vs.size) (hr : ∀ (i : Nat) (x : D) (v : Value), cells[i]? = some x → vs[i]? = some v → DRep F h x v) : DRep F h (.agg cells) (.agg vs)
  | clo (f : FuncId) (a b : List D) (va vb : Array Value) (ha : a.length = va.size) (hb : b.length = vb.size)
      (hra : ∀ (i : Nat) (x : D) (v : Value), a[i]? = some x → va[i]? = some v → DRep F h x v) (hrb : ∀ (i : Nat) (x : D) (v : Value), b[i]? = some x → vb[i]? = some v → DRep F h x v) :
      DRep F h (.clo f a b) (.func (.func f) va vb)
  | pin (cells : List D) (A : Option Addr) (len cap : Nat) (vs : List Value) (hl : cells.length = len) (hc : len ≤ cap) (hv : cells.length = vs.length) (hm : Mem (fun b => F.f b ∧ F.p b) h A vs)
      (hr : ∀ (i : Nat) (x : D) (v : Value), cells[i]? = some x → vs[i]? = some v → plainD x = true ∧ v = pv x) : DRep F h (.pin cells) (.slice A len cap)

abbrev Beta := Nat → Option (Nat × Loc)

inductive VRep (F : Frz) (h : Heap) (β : Beta) (U : Nat → Prop) : AV → Value → Prop where
  | undef (v : Value) : VRep F h β U .undef v
  | d (x : D) (v : Value) (hd : DRep F h x v) : VRep F h β U (.d x) v
  | own (id r : Nat) (v : Value) (ho : v.oneCell' = true) (hu : U r) (hv : ∀ L, β id = some (r, L) → v = .slice (some ⟨L.block, L.base, none⟩) L.len L.cap) : VRep F h β U (.own id r) v
  | sub (id r off len : Nat) (v : Value) (ho : v.oneCell' = true) (hu : U r)
      (hv : ∀ L, β id = some (r, L) → off + len ≤ L.len ∧ ∃ o, v = .slice (some ⟨L.block, o, none⟩) len (L.cap - off) ∧ (off < L.cap → o = L.base + off) ∧ o ≤ L.base + off) : VRep F h β U (.sub id r off len) v
  | ptr (id r off : Nat) (v : Value) (ho : v.oneCell' = true) (hu : U r) (hv : ∀ L, β id = some (r, L) → v = .pointer (some ⟨L.block, L.base + off, none⟩)) : VRep F h β U (.ptr id r off) v
  | inn (id r i : Nat) (v : Value) (ho : v.oneCell' = true) (hu : U r) (hv : ∀ L, β id = some (r, L) → L.inner[i]? = some v) : VRep F h β U (.inn id r i) v
  | innp (id r i j : Nat) (v : Value) (ho : v.oneCell' = true) (hu : U r)
      (hv : ∀ L, β id = some (r, L) → ∃ b o n c, L.inner[i]? = some (.slice (some ⟨b, o, none⟩) n c) ∧ v = .pointer (some ⟨b, o + j, none⟩)) : VRep F h β U (.innp id r i j) v
  | agg (cells : List AV) (vs : Array Value) (hl : cells.length = vs.size) (hr : ∀ (i : Nat) (x : AV) (v : Value), cells[i]? = some x → vs[i]? = some v → VRep F h β U x v) : VRep F h β U (.agg cells) (.agg vs)
  | tuple (cells : List AV) (vs : Array Value) (hl : cells.length = vs.size) (hr : ∀ (i : Nat) (x : AV) (v : Value), cells[i]? = some x → vs[i]? = some v → VRep F h β U x v) : VRep F h β U (.tuple cells) (.tuple vs)
  | clo (f : FuncId) (a b : List AV) (va vb : Array Value) (ha : a.length = va.size) (hb : b.length = vb.size)
      (hra : ∀ (i : Nat) (x : AV) (v : Value), a[i]? = some x → va[i]? = some v → VRep F h β U x v) (hrb : ∀ (i : Nat) (x : AV) (v : Value), b[i]? = some x → vb[i]? = some v → VRep F h β U x v) :
      VRep F h β U (.clo f a b) (.func (.func f) va vb)

/-- A row of one's own: data cells in a block of its own. -/
def RowB (F : Frz) (h : Heap) (b o cap : Nat) (cells : List D) : Prop :=
  ∃ c e, h[b]? = some (.cells c e (0, 0)) ∧ o + cap ≤ c.size ∧ cells.length ≤ cap ∧ ∀ (j : Nat) (d : D), cells[j]? = some d → rowD d = true ∧ ∃ v, c[o + j]? = some v ∧ DRep F h d v

def RowV (F : Frz) (h : Heap) (r : List D) (x : Value) : Prop :=
  (r = [] ∧ x = .slice none 0 0) ∨ ∃ b o cap, x = .slice (some ⟨b, o, none⟩) r.length cap ∧ RowB F h b o cap r

def blockOf : Value → List Nat
  | .slice (some a) _ _ => [a.block]
  | _ => []

def PRep (F : Frz) (h : Heap) (inner : List Value) : PC → Value → Prop
  | .d x, v => DRep F h x v ∧ v.oneCell' = true
  | .r k, v => inner[k]? = some v

def ORep (F : Frz) (h : Heap) (β : Beta) (U : Nat → Prop) (L : Loc) : Ob → Prop
  | .box cells => L.fp = [L.block] ∧ L.len = cells.length ∧ L.len ≤ L.cap ∧ ∃ c e, h[L.block]? = some (.cells c e (0, 0)) ∧ L.base + L.cap ≤ c.size ∧
      ∀ (i : Nat) (x : AV), cells[i]? = some x → ∃ v, c[L.base + i]? = some v ∧ VRep F h β U x v
  | .row cells => L.fp = [L.block] ∧ L.len = cells.length ∧ RowB F h L.block L.base L.cap cells
  | .mat op rows => L.len = rows.length ∧ L.len ≤ L.cap ∧ ∃ c e inner, h[L.block]? = some (.cells c e (0, 0)) ∧ L.base + L.cap ≤ c.size ∧
      inner.length = rows.length ∧ (∀ (i : Nat) (x : Value), inner[i]? = some x → c[L.base + i]? = some x) ∧ (∀ (i : Nat) (r : List D) (x : Value), rows[i]? = some r → inner[i]? = some x → RowV F h r x) ∧
      L.inner = (if op = true then [] else inner) ∧ L.fp = L.block :: inner.flatMap blockOf ∧ L.fp.Nodup
  | .per w rows cells => 0 < w ∧ cells.length = L.len * w ∧ L.len ≤ L.cap ∧ L.inner.length = rows.length ∧ (∃ c e, h[L.block]? = some (.cells c e (0, 0)) ∧ L.base + L.cap * w ≤ c.size ∧
      ∀ (i : Nat) (p : PC), cells[i]? = some p → ∃ v, c[L.base + i]? = some v ∧ PRep F h L.inner p v) ∧ (∀ (k : Nat) (r : List D) (x : Value), rows[k]? = some r → L.inner[k]? = some x → RowV F h r x) ∧
      L.fp = L.block :: L.inner.flatMap blockOf ∧ L.fp.Nodup

def Loc.same (L L' : Loc) : Prop := L'.block = L.block ∧ L'.base = L.base ∧ L'.len = L.len ∧ L'.cap = L.cap ∧ L'.inner = L.inner

structure Ext (F : Frz) (h : Heap) (β : Beta) (U : Nat → Prop) (F' : Frz) (h' : Heap) (β' : Beta) (U' : Nat → Prop) : Prop where
  eF : ∀ b, F b → F' b
  eh : ∀ b, F b → h'[b]? = h[b]?
  eU : ∀ v, U v → U' v
  eβ : ∀ id v L', U v → β' id = some (v, L') → ∃ L, β id = some (v, L) ∧ L.same L'
  eP : ∀ b, F.p b → F'.p b
  eN : ∀ b, F'.p b → F.p b ∨ h.size ≤ b

theorem Ext.refl (F : Frz) (h : Heap) (β : Beta) (U : Nat → Prop) : Ext F h β U F h β U :=
  ⟨fun _ h => h, fun _ _ => rfl, fun _ h => h, fun _ _ L _ h => ⟨L, h, rfl, rfl, rfl, rfl, rfl⟩, fun _ h => h, fun _ h => .inl h⟩

theorem cellAt_congr {h h' : Heap} {b : Nat} (e : h'[b]? = h[b]?) (off : Nat) : cellAt h' b off = cellAt h b off := by
  simp only [cellAt, e]

theorem Mem.ext {F F' : Nat → Prop} {h h' : Heap} (hF : ∀ b, F b → F' b) (hh : ∀ b, F b → h'[b]? = h[b]?) {A : Option Addr} {vs : List Value} (m : Mem F h A vs) : Mem F' h' A vs := by
  intro i v hv
  obtain ⟨b, off, hA, hb, hc⟩ := m i v hv
  exact ⟨b, off, hA, hF b hb, (cellAt_congr (hh b hb) _).trans hc⟩

theorem DRep.ext {F F' : Frz} {h h' : Heap} (hF : ∀ b, F b → F' b) (hp : ∀ b, F.p b → F'.p b) (hh : ∀ b, F b → h'[b]? = h[b]?) {x : D} {v : Value} (r : DRep F h x v) : DRep F' h' x v := by
  induction r with
  | undef v => exact .undef v
  | int k n => exact .int k n
  | bool b => exact .bool b
  | str s => exact .str s
  | nil => exact .nil
  | sl s cells A len cap vs hl hc hv hm hr ih => exact .sl s cells A len cap vs hl hc hv (hm.ext hF hh) ih
  | cellp cells b off vs hv hm hr ih => exact .cellp cells b off vs hv (hm.ext hF hh) ih
  | agg cells vs hv hr ih => exact .agg cells vs hv ih
  | clo f a b va vb ha hb hra hrb iha ihb => exact .clo f a b va vb ha hb iha ihb
  | pin cells A len cap vs hl hc hv hm hr => exact .pin cells A len cap vs hl hc hv (hm.ext (fun b hb => ⟨hF b hb.1, hp b hb.2⟩) (fun b hb => hh b hb.1)) hr

theorem VRep.ext {F : Frz} {h : Heap} {β : Beta} {U : Nat → Prop} {F' : Frz} {h' : Heap} {β' : Beta} {U' : Nat → Prop}
    (e : Ext F h β U F' h' β' U') {x : AV} {v : Value} (r : VRep F h β U x v) : VRep F' h' β' U' x v := by
  induction r with
  | undef v => exact .undef v
  | d x v hd => exact .d x v (hd.ext e.eF e.eP e.eh)
  | own id r v ho hu hv =>
    refine .own id r v ho (e.eU _ hu) fun L' hL' => ?_
    obtain ⟨L, hL, s1, s2, s3, s4, s5⟩ := e.eβ id r L' hu hL'
    rw [s1, s2, s3, s4]; exact hv L hL
  | sub id r off len v ho hu hv =>
    refine .sub id r off len v ho (e.eU _ hu) fun L' hL' => ?_
    obtain ⟨L, hL, s1, s2, s3, s4, s5⟩ := e.eβ id r L' hu hL'
    rw [s1, s2, s3, s4]; exact hv L hL
  | ptr id r off v ho hu hv =>
    refine .ptr id r off v ho (e.eU _ hu) fun L' hL' => ?_
    obtain ⟨L, hL, s1, s2, s3, s4, s5⟩ := e.eβ id r L' hu hL'
    rw [s1, s2]; exact hv L hL
  | inn id r i v ho hu hv =>
    refine .inn id r i v ho (e.eU _ hu) fun L' hL' => ?_
    obtain ⟨L, hL, s1, s2, s3, s4, s5⟩ := e.eβ id r L' hu hL'
    rw [s5]; exact hv L hL
  | innp id r i j v ho hu hv =>
    refine .innp id r i j v ho (e.eU _ hu) fun L' hL' => ?_
    obtain ⟨L, hL, s1, s2, s3, s4, s5⟩ := e.eβ id r L' hu hL'
    rw [s5]; exact hv L hL
  | agg cells vs hl hr ih => exact .agg cells vs hl ih
  | tuple cells vs hl hr ih => exact .tuple cells vs hl ih
  | clo f a b va vb ha hb hra hrb iha ihb => exact .clo f a b va vb ha hb iha ihb

theorem RowB.ext {F F' : Frz} {h h' : Heap} {b o cap : Nat} {cells : List D} (hF : ∀ b, F b → F' b) (hp : ∀ b, F.p b → F'.p b) (hh : ∀ b, F b → h'[b]? = h[b]?) (e : h'[b]? = h[b]?) (r : RowB F h b o cap cells) : RowB F' h' b o cap cells := by
  obtain ⟨c, t, hc, h1, h2, r⟩ := r
  refine ⟨c, t, e.trans hc, h1, h2, fun j d hj => ?_⟩
  obtain ⟨g1, v, g2, g3⟩ := r j d hj
  exact ⟨g1, v, g2, g3.ext hF hp hh⟩

theorem rowD_one {F : Frz} {h : Heap} {d : D} {v : Value} (r : DRep F h d v) (hd : rowD d = true) : v.oneCell' = true := by
  cases r <;> first | rfl | simp [rowD] at hd

theorem ORep.ext {F : Frz} {h : Heap} {β : Beta} {U : Nat → Prop} {F' : Frz} {h' : Heap} {β' : Beta} {U' : Nat → Prop}
    (e : Ext F h β U F' h' β' U') {L : Loc} {ob : Ob} (hb : ∀ b ∈ L.fp, h'[b]? = h[b]?) (r : ORep F h β U L ob) : ORep F' h' β' U' L ob := by
  cases ob with
  | box cells =>
    obtain ⟨f, l, l', c, t, hc, hs, hx⟩ := r
    refine ⟨f, l, l', c, t, (hb _ (by simp [f])).trans hc, hs, fun i x hi => ?_⟩
    obtain ⟨v, hv, hr⟩ := hx i x hi
    exact ⟨v, hv, hr.ext e⟩
  | row cells =>
    obtain ⟨f, l, r⟩ := r
    exact ⟨f, l, r.ext e.eF e.eP e.eh (hb _ (by simp [f]))⟩
  | mat op rows =>
    obtain ⟨l, l', c, t, inner, hc, hs, hi, h1, h2, h3, h4, h5⟩ := r
    refine ⟨l, l', c, t, inner, (hb _ (by simp [h4])).trans hc, hs, hi, h1, fun i r x hr hx => ?_, h3, h4, h5⟩
    rcases h2 i r x hr hx with h | ⟨b, o, cap, hx', hB⟩
    · exact .inl h
    · refine .inr ⟨b, o, cap, hx', hB.ext e.eF e.eP e.eh (hb b ?_)⟩
      rw [h4]
      refine List.mem_cons_of_mem _ (List.mem_flatMap.2 ⟨x, List.mem_of_getElem? hx, ?_⟩)
      simp [hx', blockOf]
  | per w' rows cells =>
    obtain ⟨l0, l, l', hi, ⟨c, t, hc, hs, h1⟩, h2, h4, h5⟩ := r
    refine ⟨l0, l, l', hi, ⟨c, t, (hb _ (by simp [h4])).trans hc, hs, fun i p hp => ?_⟩, fun k r x hr hx => ?_, h4, h5⟩
    · obtain ⟨v, hv, hr⟩ := h1 i p hp
      refine ⟨v, hv, ?_⟩
      cases p with
      | d x => exact ⟨hr.1.ext e.eF e.eP e.eh, hr.2⟩
      | r k => exact hr
    · rcases h2 k r x hr hx with h | ⟨b, o, cap, hx', hB⟩
      · exact .inl h
      · refine .inr ⟨b, o, cap, hx', hB.ext e.eF e.eP e.eh (hb b ?_)⟩
        rw [h4]
        refine List.mem_cons_of_mem _ (List.mem_flatMap.2 ⟨x, List.mem_of_getElem? hx, ?_⟩)
        simp [hx', blockOf]

structure Inv (n0 : Nat) (M : Nat → Prop) (F : Frz) (β : Beta) (U : Nat → Prop) (O : Nat → Option (Nat × Ob)) (h : Heap) : Prop where
  objs : ∀ id v ob, O id = some (v, ob) → ∃ L, β id = some (v, L) ∧ ORep F h β U L ob
  only : ∀ id v L, β id = some (v, L) → ∃ ob, O id = some (v, ob)
  used : ∀ id v L, β id = some (v, L) → U v
  disj : ∀ id v L id' v' L', β id = some (v, L) → β id' = some (v', L') → id ≠ id' → ∀ b ∈ L.fp, b ∉ L'.fp
  out : ∀ id v L, β id = some (v, L) → ∀ b ∈ L.fp, ¬ F b ∧ b < h.size ∧ (n0 ≤ b ∨ M b)
  lt : ∀ b, F b → b < h.size
  le : n0 ≤ h.size
  low : ∀ b, F.p b → F b

/-- The world's change that a piece of the walk may bring about. -/
structure Stp (n0 : Nat) (M : Nat → Prop) (w w' : World) : Prop where
  os : w'.os = w.os
  tape : w'.tape = w.tape
  output : w'.output = w.output
  size : w.heap.size ≤ w'.heap.size
  block : ∀ b, b < n0 → ¬ M b → w'.heap[b]? = w.heap[b]?

theorem Stp.refl (n0 : Nat) (M : Nat → Prop) (w : World) : Stp n0 M w w := ⟨rfl, rfl, rfl, Nat.le_refl _, fun _ _ _ => rfl⟩
theorem Stp.trans {n0 : Nat} {M : Nat → Prop} {a b c : World} (x : Stp n0 M a b) (y : Stp n0 M b c) : Stp n0 M a c :=
  ⟨y.os.trans x.os, y.tape.trans x.tape, y.output.trans x.output, Nat.le_trans x.size y.size, fun k hk hm => (y.block k hk hm).trans (x.block k hk hm)⟩
theorem Stp.drew (n0 : Nat) (M : Nat → Prop) (w : World) : Stp n0 M w { w with drawn := w.drawn + 1 } := ⟨rfl, rfl, rfl, Nat.le_refl _, fun _ _ _ => rfl⟩
end Go.Proofs.YtnfhglplafmfiaaGreatE

namespace Go.Proofs.YtnfhglplafmfiaaGreatE
open Go
set_option linter.unusedSectionVars false

def updO (O : Nat → Option (Nat × Ob)) (upd : Obs) : Nat → Option (Nat × Ob) := fun id =>
  match lookL upd id with
  | some x => x
  | none => O id

theorem obsL_append (upd o : Obs) : obsL (upd ++ o) = updO (obsL o) upd := by
  funext id
  induction upd with
  | nil => rfl
  | cons p r ih =>
    obtain ⟨u, x⟩ := p
    simp only [List.cons_append, obsL, lookL, updO] at *
    by_cases h : u = id
    · simp [h]
    · simp only [h, if_false]; exact ih

def Does (P : Program) (o : Oper) (a : Act) (w : World) (R : Value → World → Prop) : Prop :=
  (∃ val w', (execOp a.eval o).run P w = .ok (.value val) w' ∧ R val w') ∨
  (∃ w', (execOp a.eval o).run P w = .ok .skip w' ∧ R undef w') ∨
  (∃ f vals, (execOp a.eval o).run P w = .ok (.enter f vals) w ∧ Calls P f vals w fun e w' => ∃ val, e = .returned val ∧ R val w')

theorem Does.wp {P : Program} {o : Oper} {a : Act} {w : World} {R : Value → World → Prop} (h : Does P o a w R) {next : Act → World → Prop} {Q : Exit → Act → World → Prop}
    (hn : ∀ val w', R val w' → next (a.put o.dst val) w') : o.wp P a w next Q := by
  unfold Oper.wp
  rcases h with ⟨val, w', hr, h⟩ | ⟨w', hr, h⟩ | ⟨f, vals, hr, h⟩
  · rw [hr]; exact hn _ _ h
  · rw [hr]; exact hn _ _ h
  · rw [hr]
    refine Calls.mono h fun e w' he => ?_
    obtain ⟨val, rfl, h⟩ := he
    exact hn _ _ h

def Post (n0 : Nat) (M : Nat → Prop) (F : Frz) (β : Beta) (U : Nat → Prop) (O : Nat → Option (Nat × Ob)) (w : World) (ver : Nat) (out : Out) (val : Value) (w' : World) : Prop :=
  ∃ F' β' U', Inv n0 M F' β' U' (updO O out.upd) w'.heap ∧ VRep F' w'.heap β' U' out.val val ∧ Ext F w.heap β U F' w'.heap β' U' ∧
    (∀ v, U' v → U v ∨ v = ver) ∧ Stp n0 M w w'

section
variable {n0 : Nat} {M : Nat → Prop} {F : Frz} {β : Beta} {U : Nat → Prop} {O : Nat → Option (Nat × Ob)} {w : World} {ver : Nat}

theorem Post.pure (I : Inv n0 M F β U O w.heap) {x : AV} {val : Value} (hv : VRep F w.heap β U x val) : Post n0 M F β U O w ver { val := x } val w :=
  ⟨F, β, U, I, hv, Ext.refl _ _ _ _, fun _ h => .inl h, Stp.refl _ _ _⟩

theorem Inv.upd {h h' : Heap} (I : Inv n0 M F β U O h) (id v : Nat) (L : Loc) (ob : Ob) (rem : List Nat) {O' : Nat → Option (Nat × Ob)} {β' : Beta} {U' : Nat → Prop}
    (hO : ∀ j, O' j = if j = id then some (v, ob) else if j ∈ rem then none else O j) (hβ : ∀ j, β' j = if j = id then some (v, L) else if j ∈ rem then none else β j)
    (E : Ext F h β U F h' β' U') (hU : U' v) (hob : ORep F h' β' U' L ob)
    (hfp : ∀ b ∈ L.fp, (h.size ≤ b ∧ b < h'.size) ∨ ∃ j v' L', (j = id ∨ j ∈ rem) ∧ β j = some (v', L') ∧ b ∈ L'.fp)
    (hsame : ∀ j v' L', β j = some (v', L') → j ≠ id → j ∉ rem → ∀ b ∈ L'.fp, h'[b]? = h[b]?) (hsz : h.size ≤ h'.size) : Inv n0 M F β' U' O' h' := by
  have key : ∀ j v' L', β' j = some (v', L') → (j = id ∧ v' = v ∧ L' = L) ∨ (j ≠ id ∧ j ∉ rem ∧ β j = some (v', L')) := by
    intro j v' L' hj
    rw [hβ] at hj
    by_cases h1 : j = id
    · simp only [h1, if_true, Option.some.injEq, Prod.mk.injEq] at hj; exact .inl ⟨h1, hj.1.symm, hj.2.symm⟩
    · by_cases h2 : j ∈ rem
      · simp [h1, h2] at hj
      · simp only [h1, h2, if_false] at hj; exact .inr ⟨h1, h2, hj⟩
  have newfp : ∀ b ∈ L.fp, ∀ j v' L', j ≠ id → j ∉ rem → β j = some (v', L') → b ∉ L'.fp := by
    intro b hb j v' L' hj hr hL hbL
    rcases hfp b hb with ⟨h1, _⟩ | ⟨k, vk, Lk, hk, hLk, hbk⟩
    · have := (I.out j v' L' hL b hbL).2.1; omega
    · refine I.disj k vk Lk j v' L' hLk hL ?_ b hbk hbL
      rcases hk with rfl | hk
      · exact fun e => hj e.symm
      · exact fun e => hr (e ▸ hk)
  refine ⟨?_, ?_, ?_, ?_, ?_, ?_, Nat.le_trans I.le hsz, I.low⟩
  · intro j v' ob' hj
    rw [hO] at hj
    by_cases h1 : j = id
    · simp only [h1, if_true, Option.some.injEq, Prod.mk.injEq] at hj
      obtain ⟨rfl, rfl⟩ := hj
      exact ⟨L, by simp [hβ, h1], hob⟩
    · by_cases h2 : j ∈ rem
      · simp [h1, h2] at hj
      · simp only [h1, h2, if_false] at hj
        obtain ⟨L', hL', hr⟩ := I.objs j v' ob' hj
        exact ⟨L', by simp [hβ, h1, h2, hL'], hr.ext E (hsame j v' L' hL' h1 h2)⟩
  · intro j v' L' hj
    rcases key j v' L' hj with ⟨rfl, rfl, rfl⟩ | ⟨h1, h2, h3⟩
    · exact ⟨ob, by simp [hO]⟩
    · obtain ⟨ob', h⟩ := I.only j v' L' h3
      exact ⟨ob', by simp [hO, h1, h2, h]⟩
  · intro j v' L' hj
    rcases key j v' L' hj with ⟨rfl, rfl, rfl⟩ | ⟨h1, h2, h3⟩
    · exact hU
    · exact E.eU _ (I.used j v' L' h3)
  · intro j v' L' j2 v2 L2 hj hj2 hne b hb hb2
    rcases key j v' L' hj with ⟨rfl, rfl, rfl⟩ | ⟨h1, h2, h3⟩
    · rcases key j2 v2 L2 hj2 with ⟨rfl, _, _⟩ | ⟨k1, k2, k3⟩
      · exact hne rfl
      · exact newfp b hb j2 v2 L2 k1 k2 k3 hb2
    · rcases key j2 v2 L2 hj2 with ⟨rfl, rfl, rfl⟩ | ⟨k1, k2, k3⟩
      · exact newfp b hb2 j v' L' h1 h2 h3 hb
      · exact I.disj j v' L' j2 v2 L2 h3 k3 hne b hb hb2
  · intro j v' L' hj b hb
    rcases key j v' L' hj with ⟨rfl, rfl, rfl⟩ | ⟨h1, h2, h3⟩
    · rcases hfp b hb with ⟨g1, g2⟩ | ⟨k, vk, Lk, hk, hLk, hbk⟩
      · exact ⟨fun hF => by have := I.lt b hF; omega, g2, .inl (Nat.le_trans I.le g1)⟩
      · obtain ⟨o1, o2, o3⟩ := I.out k vk Lk hLk b hbk
        exact ⟨o1, Nat.lt_of_lt_of_le o2 hsz, o3⟩
    · obtain ⟨o1, o2, o3⟩ := I.out j v' L' h3 b hb
      exact ⟨o1, Nat.lt_of_lt_of_le o2 hsz, o3⟩
  · exact fun b hb => Nat.lt_of_lt_of_le (I.lt b hb) hsz

theorem getElem?_push_lt {h : Heap} {o : Obj} {b : Nat} (hb : b < h.size) : (h.push o)[b]? = h[b]? := by
  rw [Array.getElem?_push, if_neg (by omega)]

/-- One more used version, and a place for it. -/
theorem Ext.put {h h' : Heap} {id : Nat} {L : Loc} {rem : List Nat} (hver : ¬ U ver) (hh : ∀ b, F b → h'[b]? = h[b]?) :
    Ext F h β U F h' (fun j => if j = id then some (ver, L) else if j ∈ rem then none else β j) (fun v => U v ∨ v = ver) :=
  ⟨fun _ h => h, hh, fun _ h => .inl h, fun j v L' hv hj => by
    by_cases h1 : j = id
    · simp only [h1, if_true, Option.some.injEq, Prod.mk.injEq] at hj
      exact absurd (hj.1 ▸ hv) hver
    · by_cases h2 : j ∈ rem
      · simp [h1, h2] at hj
      · simp only [h1, h2, if_false] at hj; exact ⟨L', hj, rfl, rfl, rfl, rfl, rfl⟩, fun _ h => h, fun _ h => .inl h⟩

theorem updO_put {id : Nat} {v : Nat} {ob : Ob} {rem : List Nat} (j : Nat) :
    updO O ((id, some (v, ob)) :: rem.map fun i => (i, none)) j = if j = id then some (v, ob) else if j ∈ rem then none else O j := by
  simp only [updO, lookL]
  by_cases h : id = j
  · simp [h]
  · have h' : ¬ j = id := fun e => h e.symm
    simp only [h, h', if_false]
    induction rem with
    | nil => simp [lookL]
    | cons r rs ih =>
      simp only [List.map_cons, lookL, List.mem_cons]
      by_cases h2 : r = j
      · simp [h2]
      · have h2' : ¬ j = r := fun e => h2 e.symm
        simp only [h2, h2', if_false, false_or]; exact ih

/-- A new block of one's own. -/
theorem Post.new (I : Inv n0 M F β U O w.heap) (hver : ¬ U ver) (c : Array Value) (e : TypeId) (id : Nat) (L : Loc) (ob : Ob) (hfp : L.fp = [w.heap.size])
    (hob : ∀ β' U', Ext F w.heap β U F (w.heap.push (.cells c e)) β' U' → ORep F (w.heap.push (.cells c e)) β' U' L ob) {x : AV} {val : Value}
    (hx : ∀ β' U', U' ver → β' id = some (ver, L) → VRep F (w.heap.push (.cells c e)) β' U' x val) :
    Post n0 M F β U O w ver { val := x, upd := [(id, some (ver, ob))] } val { w with heap := w.heap.push (.cells c e) } := by
  have E : Ext F w.heap β U F (w.heap.push (.cells c e)) (fun j => if j = id then some (ver, L) else if j ∈ ([] : List Nat) then none else β j) (fun v => U v ∨ v = ver) :=
    Ext.put hver fun b hb => getElem?_push_lt (I.lt b hb)
  refine ⟨F, _, _, I.upd id ver L ob [] (fun j => updO_put (rem := []) j) (fun _ => rfl) E (.inr rfl) (hob _ _ E) ?_ ?_ (by simp), hx _ _ (.inr rfl) (by simp), E, fun v h => h, ?_⟩
  · intro b hb
    simp only [hfp, List.mem_singleton] at hb
    exact .inl ⟨by omega, by simp; omega⟩
  · intro j v' L' hj _ _ b hb
    exact getElem?_push_lt (I.out j v' L' hj b hb).2.1
  · exact ⟨rfl, rfl, rfl, by simp, fun b hb _ => getElem?_push_lt (Nat.lt_of_lt_of_le hb I.le)⟩

/-- A new block that nobody will write to. -/
theorem Post.frozen (I : Inv n0 M F β U O w.heap) (c : Array Value) (e : TypeId) {x : D} {val : Value}
    (hx : DRep ⟨fun b => F b ∨ b = w.heap.size, F.p⟩ (w.heap.push (.cells c e)) x val) :
    Post n0 M F β U O w ver { val := .d x } val { w with heap := w.heap.push (.cells c e) } := by
  have E : Ext F w.heap β U ⟨fun b => F b ∨ b = w.heap.size, F.p⟩ (w.heap.push (.cells c e)) β U :=
    ⟨fun _ h => Or.inl h, fun b hb => getElem?_push_lt (I.lt b hb), fun _ h => h, fun _ _ L _ h => ⟨L, h, rfl, rfl, rfl, rfl, rfl⟩, fun _ h => h, fun _ h => Or.inl h⟩
  refine ⟨⟨fun b => F b ∨ b = w.heap.size, F.p⟩, β, U, ⟨?_, I.only, I.used, I.disj, ?_, ?_, by simp; have := I.le; omega, fun b hb => Or.inl (I.low b hb)⟩, .d x val hx, E, fun v h => .inl h, ?_⟩
  · intro id v ob hO
    obtain ⟨L, hL, hr⟩ := I.objs id v ob hO
    exact ⟨L, hL, hr.ext E fun b hb => getElem?_push_lt (I.out id v L hL b hb).2.1⟩
  · intro id v L hL b hb
    obtain ⟨o1, o2, o3⟩ := I.out id v L hL b hb
    exact ⟨fun h => Or.elim h o1 (fun e => by omega), by simp; omega, o3⟩
  · intro b hb
    rcases (show F b ∨ b = w.heap.size from hb) with hb | rfl
    · have := I.lt b hb; simp; omega
    · simp
  · exact ⟨rfl, rfl, rfl, by simp, fun b hb _ => getElem?_push_lt (Nat.lt_of_lt_of_le hb I.le)⟩
end
end Go.Proofs.YtnfhglplafmfiaaGreatE

namespace Go.Proofs.YtnfhglplafmfiaaGreatE
open Go
set_option linter.unusedSectionVars false

theorem bnd_eq_some {α β : Type} {x : Option α} {f : α → Option β} {y : β} : bnd x f = some y ↔ ∃ a, x = some a ∧ f a = some y := by
  cases x <;> simp [bnd]

theorem ite_some {α : Type} {c : Prop} [Decidable c] {x : Option α} {y : α} : (if c then x else none) = some y ↔ c ∧ x = some y := by
  by_cases h : c <;> simp [h]

structure Hyp (n0 : Nat) (M : Nat → Prop) (F : Frz) (β : Beta) (U : Nat → Prop) (O : Nat → Option (Nat × Ob)) (look : Nat → Option AV) (a : Act) (w : World) (ver : Nat) : Prop where
  I : Inv n0 M F β U O w.heap
  env : ∀ t x, look t = some x → ∃ v, a.tmps[t]? = some v ∧ VRep F w.heap β U x v
  ver : ¬ U ver

theorem cells_one {v : Value} (h : v.oneCell' = true) : v.cells = #[v] := by
  cases v <;> first | rfl | simp [Value.oneCell'] at h

section
variable {P : Program} {n0 : Nat} {M : Nat → Prop} {F : Frz} {β : Beta} {U : Nat → Prop} {O : Nat → Option (Nat × Ob)} {look : Nat → Option AV} {a : Act} {w : World} {h : Heap} {ver : Nat}

theorem solid_one {x : AV} {v : Value} (r : VRep F h β U x v) (hs : solid x = true) : v.oneCell' = true := by
  cases r with
  | d x v hd => cases hd <;> first | rfl | simp [solid] at hs
  | own _ _ _ ho => exact ho
  | sub _ _ _ _ _ ho => exact ho
  | ptr _ _ _ _ ho => exact ho
  | inn _ _ _ _ ho => exact ho
  | innp _ _ _ _ _ ho => exact ho
  | clo => rfl
  | _ => simp [solid] at hs

theorem cells_rep {x : AV} {v : Value} (r : VRep F h β U x v) (hs : cellsOk x = true) : (cellsOf x).length = v.cells.size ∧
    ∀ (i : Nat) (y : AV) (u : Value), (cellsOf x)[i]? = some y → v.cells[i]? = some u → VRep F h β U y u ∧ u.oneCell' = true := by
  by_cases hx : ∃ cs, x = .agg cs
  · obtain ⟨cs, rfl⟩ := hx
    cases r with
    | agg _ vs hl hr =>
      refine ⟨hl, fun i y u hy hu => ⟨hr i y u hy hu, solid_one (hr i y u hy hu) ?_⟩⟩
      simp only [cellsOk, List.all_eq_true] at hs
      exact hs y (List.mem_of_getElem? hy)
  · have h1 : cellsOf x = [x] := by cases x <;> first | rfl | exact absurd ⟨_, rfl⟩ hx
    have h2 : solid x = true := by cases x <;> first | exact hs | exact absurd ⟨_, rfl⟩ hx
    have h3 := solid_one r h2
    rw [h1, cells_one h3]
    refine ⟨rfl, fun i y u hy hu => ?_⟩
    cases i with
    | zero => simp at hy hu; subst hy; subst hu; exact ⟨r, h3⟩
    | succ i => simp at hy

theorem scalar_rep {v : Value} {x : D} (hx : scalar v = some x) : DRep F h x v := by
  cases v with
  | bool b => simp only [scalar, Option.some.injEq] at hx; subst hx; exact .bool b
  | int k n => simp only [scalar, Option.some.injEq] at hx; subst hx; exact .int k n
  | string s => simp only [scalar, Option.some.injEq] at hx; subst hx; exact .str s
  | slice A l c =>
    cases A with
    | none =>
      cases l with
      | zero =>
        cases c with
        | zero => simp only [scalar, Option.some.injEq] at hx; subst hx; exact .nil
        | succ c => simp [scalar] at hx
      | succ l => simp [scalar] at hx
    | some A => simp [scalar] at hx
  | _ => simp [scalar] at hx

theorem mapO_spec {α γ : Type} {f : α → Option γ} {xs : List α} {ys : List γ} (h : mapO f xs = some ys) :
    xs.length = ys.length ∧ ∀ (i : Nat) (x : α) (y : γ), xs[i]? = some x → ys[i]? = some y → f x = some y := by
  induction xs generalizing ys with
  | nil => simp only [mapO, Option.some.injEq] at h; subst h; simp
  | cons x xs ih =>
    simp only [mapO] at h
    obtain ⟨y, hy, h⟩ := bnd_eq_some.1 h
    obtain ⟨ys', hys, h⟩ := bnd_eq_some.1 h
    simp only [Option.some.injEq] at h; subst h
    obtain ⟨h1, h2⟩ := ih hys
    refine ⟨by simp [h1], fun i a b ha hb => ?_⟩
    cases i with
    | zero => simp at ha hb; subst ha; subst hb; exact hy
    | succ i => simp at ha hb; exact h2 i a b ha hb

theorem mapO_get {α γ : Type} {f : α → Option γ} {xs : List α} {ys : List γ} (h : mapO f xs = some ys) {i : Nat} {y : γ} (hy : ys[i]? = some y) : ∃ x, xs[i]? = some x ∧ f x = some y := by
  obtain ⟨h1, h2⟩ := mapO_spec h
  have hi : i < xs.length := by rw [h1]; exact (List.getElem?_eq_some_iff.1 hy).1
  exact ⟨xs[i], List.getElem?_eq_getElem hi, h2 i _ y (List.getElem?_eq_getElem hi) hy⟩

theorem ofValue_rep {v : Value} {x : AV} (hx : ofValue v = some x) : VRep F h β U x v := by
  by_cases hv : ∃ cs, v = .agg cs
  · obtain ⟨cs, rfl⟩ := hv
    simp only [ofValue] at hx
    obtain ⟨ds, hds, hx⟩ := bnd_eq_some.1 hx
    simp only [Option.some.injEq] at hx; subst hx
    obtain ⟨h1, h2⟩ := mapO_spec hds
    refine .agg _ _ (by simpa using h1.symm) fun i y u hy hu => ?_
    simp only [List.getElem?_map, Option.map_eq_some_iff] at hy
    obtain ⟨d, hd, rfl⟩ := hy
    exact .d d u (scalar_rep (h2 i u d (by simpa using hu) hd))
  · by_cases hp : v = .pointer none
    · subst hp
      simp only [ofValue, Option.some.injEq] at hx
      subst hx
      exact .undef _
    have : ofValue v = bnd (scalar v) fun x => some (.d x) := by
      cases v with
      | agg cs => exact absurd ⟨_, rfl⟩ hv
      | pointer p =>
        cases p with
        | none => exact absurd rfl hp
        | some p => rfl
      | _ => rfl
    rw [this] at hx
    obtain ⟨d, hd, hx⟩ := bnd_eq_some.1 hx
    simp only [Option.some.injEq] at hx; subst hx
    exact .d d v (scalar_rep hd)

theorem opnd_rep (H : Hyp n0 M F β U O look a w ver) {x : Operand} {av : AV} (hx : opnd look x = some av) : VRep F w.heap β U av (a.eval x) := by
  cases x with
  | tmp t =>
    obtain ⟨v, hv, hr⟩ := H.env t av hx
    simpa [Act.eval, Array.getD_eq_getD_getElem?, hv] using hr
  | const v => exact ofValue_rep hx
  | func f =>
    simp only [opnd, Option.some.injEq] at hx; subst hx
    exact .d _ _ (.clo f [] [] #[] #[] rfl rfl (fun i x v hx _ => by simp at hx) (fun i x v hx _ => by simp at hx))
  | global g => simp [opnd] at hx

theorem asBool_rep {x : AV} {b : Bool} {v : Value} (hr : VRep F h β U x v) (hx : asBool x = some b) : v = .bool b := by
  cases hr with
  | d x v hd => cases hd <;> simp [asBool] at hx; subst hx; rfl
  | _ => simp [asBool] at hx

theorem asInt_rep {x : AV} {n : Int} {v : Value} (hr : VRep F h β U x v) (hx : asInt x = some n) : ∃ k, v = .int k n := by
  cases hr with
  | d x v hd => cases hd <;> simp [asInt] at hx; subst hx; exact ⟨_, rfl⟩
  | _ => simp [asInt] at hx

theorem asD_rep {x : AV} {d : D} {v : Value} (hr : VRep F h β U x v) (hx : asD x = some d) : DRep F h d v := by
  cases hr with
  | d x v hd => simp only [asD, Option.some.injEq] at hx; subst hx; exact hd
  | _ => simp [asD] at hx

theorem run_zero {i : TypeInfo} {t : TypeId} {z : Value} (hi : P.info? t = some i) (hz : i.zero = some z) : (zeroValue t).run P w = .ok z w := by
  simp [zeroValue, typeInfo, hi, hz]

theorem zer_spec {t : TypeId} {x : AV} (hx : zer P t = some x) : ∃ i z, P.info? t = some i ∧ i.zero = some z ∧ ofValue z = some x := by
  unfold zer at hx
  cases hi : P.info? t with
  | none => simp [hi] at hx
  | some i =>
    simp only [hi] at hx
    obtain ⟨z, hz, hx⟩ := bnd_eq_some.1 hx
    exact ⟨i, z, rfl, hz, hx⟩

/-- A new variable: a box with a value's cells. -/
theorem box_post (H : Hyp n0 M F β U O look a w ver) (e : TypeId) (t : Nat) {x : AV} {v : Value} (hr : VRep F w.heap β U x v) (hs : cellsOk x = true) :
    Post n0 M F β U O w ver { val := .ptr (t * 16) ver 0, upd := [(t * 16, some (ver, .box (cellsOf x)))] } (.pointer (some ⟨w.heap.size, 0, none⟩))
      { w with heap := w.heap.push (.cells v.cells e) } := by
  obtain ⟨hl, hc⟩ := cells_rep hr hs
  refine Post.new H.I H.ver v.cells e (t * 16) ⟨w.heap.size, 0, (cellsOf x).length, v.cells.size, [], [w.heap.size]⟩ _ rfl ?_ ?_
  · intro β' U' E
    refine ⟨rfl, rfl, Nat.le_of_eq hl, v.cells, e, by simp, by simp, fun i y hy => ?_⟩
    have hi : i < v.cells.size := by rw [← hl]; exact (List.getElem?_eq_some_iff.1 hy).1
    refine ⟨v.cells[i], by simp [hi], ?_⟩
    exact (hc i y _ hy (by simp [hi])).1.ext E
  · intro β' U' hu hβ
    refine .ptr _ _ _ _ rfl hu fun L hL => ?_
    rw [hβ] at hL
    simp only [Option.some.injEq, Prod.mk.injEq, true_and] at hL
    subst hL; rfl

variable {cx : Cx} (hP : cx.P = P) (H : Hyp n0 M F β U O look a w ver) {out : Out} {dst : Option Tmp} {ty : TypeId} {pos : String} {aft : Array Edge} {gd : Option (Nat × Bool)}
include H

theorem op_move {x : Operand} (h : evalOp cx look O ver ⟨dst, .move x, ty, pos, aft, gd⟩ = some out) : Does P ⟨dst, .move x, ty, pos, aft, gd⟩ a w (Post n0 M F β U O w ver out) := by
  simp only [evalOp] at h
  obtain ⟨v, hv, h⟩ := bnd_eq_some.1 h
  simp only [Option.some.injEq] at h; subst h
  exact .inl ⟨a.eval x, w, rfl, Post.pure H.I (opnd_rep H hv)⟩

theorem op_assign {x : Operand} (h : evalOp cx look O ver ⟨dst, .assign x, ty, pos, aft, gd⟩ = some out) : Does P ⟨dst, .assign x, ty, pos, aft, gd⟩ a w (Post n0 M F β U O w ver out) := by
  simp only [evalOp] at h
  obtain ⟨v, hv, h⟩ := bnd_eq_some.1 h
  simp only [Option.some.injEq] at h; subst h
  exact .inl ⟨a.eval x, w, rfl, Post.pure H.I (opnd_rep H hv)⟩

theorem op_pick {c x y : Operand} (h : evalOp cx look O ver ⟨dst, .pick c x y, ty, pos, aft, gd⟩ = some out) : Does P ⟨dst, .pick c x y, ty, pos, aft, gd⟩ a w (Post n0 M F β U O w ver out) := by
  simp only [evalOp] at h
  obtain ⟨b, hb, h⟩ := bnd_eq_some.1 h
  obtain ⟨cv, hc, hb⟩ := bnd_eq_some.1 hb
  obtain ⟨v, hv, h⟩ := bnd_eq_some.1 h
  simp only [Option.some.injEq] at h; subst h
  have e := asBool_rep (opnd_rep H hc) hb
  refine .inl ⟨if b then a.eval x else a.eval y, w, ?_, Post.pure H.I ?_⟩
  · simp [execOp, e, Go.asBool]
  · cases b
    · simpa using opnd_rep H hv
    · simpa using opnd_rep H hv

theorem op_extract {x : Operand} {i : Nat} (h : evalOp cx look O ver ⟨dst, .extract x i, ty, pos, aft, gd⟩ = some out) : Does P ⟨dst, .extract x i, ty, pos, aft, gd⟩ a w (Post n0 M F β U O w ver out) := by
  simp only [evalOp] at h
  obtain ⟨v, hv, h⟩ := bnd_eq_some.1 h
  cases v with
  | tuple vs =>
    obtain ⟨c, hc, h⟩ := bnd_eq_some.1 h
    simp only [Option.some.injEq] at h; subst h
    have r := opnd_rep H hv
    generalize he : a.eval x = av at r
    cases r with
    | tuple _ us hl hr =>
      have hi : i < us.size := by rw [← hl]; exact (List.getElem?_eq_some_iff.1 hc).1
      exact .inl ⟨us[i], w, by simp [execOp, Instr.extract, he, hi], Post.pure H.I (hr i c _ hc (by simp [hi]))⟩
  | _ => simp at h

theorem op_makeFunc {fn : Fn} {xs ys : Array Operand} (h : evalOp cx look O ver ⟨dst, .makeFunc fn xs ys, ty, pos, aft, gd⟩ = some out) : Does P ⟨dst, .makeFunc fn xs ys, ty, pos, aft, gd⟩ a w (Post n0 M F β U O w ver out) := by
  simp only [evalOp] at h
  cases fn with
  | func f =>
    obtain ⟨as, ha, h⟩ := bnd_eq_some.1 h
    obtain ⟨bs, hb, h⟩ := bnd_eq_some.1 h
    simp only [Option.some.injEq] at h; subst h
    refine .inl ⟨.func (.func f) (xs.map a.eval) (ys.map a.eval), w, rfl, Post.pure H.I ?_⟩
    obtain ⟨a1, a2⟩ := mapO_spec ha
    obtain ⟨b1, b2⟩ := mapO_spec hb
    refine .clo f _ _ _ _ (by simpa using a1.symm) (by simpa using b1.symm) ?_ ?_
    · intro i x v hx hv
      obtain ⟨o, ho, hf⟩ := mapO_get ha hx
      simp only [Array.getElem?_map, Option.map_eq_some_iff] at hv
      obtain ⟨o', ho', rfl⟩ := hv
      obtain rfl : o = o' := Option.some.inj (ho.symm.trans (by simpa using ho'))
      exact opnd_rep H hf
    · intro i x v hx hv
      obtain ⟨o, ho, hf⟩ := mapO_get hb hx
      simp only [Array.getElem?_map, Option.map_eq_some_iff] at hv
      obtain ⟨o', ho', rfl⟩ := hv
      obtain rfl : o = o' := Option.some.inj (ho.symm.trans (by simpa using ho'))
      exact opnd_rep H hf
  | _ => simp at h

include hP
theorem op_alloc {e : TypeId} (h : evalOp cx look O ver ⟨dst, .alloc e, ty, pos, aft, gd⟩ = some out) : Does P ⟨dst, .alloc e, ty, pos, aft, gd⟩ a w (Post n0 M F β U O w ver out) := by
  subst hP
  simp only [evalOp] at h
  obtain ⟨z, hz, h⟩ := bnd_eq_some.1 h
  obtain ⟨t, ht, h⟩ := bnd_eq_some.1 h
  obtain ⟨hs, h⟩ := ite_some.1 h
  simp only [Option.some.injEq] at h; subst h
  obtain ⟨i, v, hi, hv, hx⟩ := zer_spec hz
  refine .inl ⟨_, _, ?_, box_post H e t (ofValue_rep hx) hs⟩
  simp [execOp, Instr.alloc, run_zero hi hv, newVar, newRow]

end
end Go.Proofs.YtnfhglplafmfiaaGreatE

namespace Go.Proofs.YtnfhglplafmfiaaGreatE
set_option linter.unusedSectionVars false
set_option linter.unusedSimpArgs false
set_option linter.unusedVariables false
open Go
set_option linter.unusedSectionVars false

theorem at_iff {O : Nat → Option (Nat × Ob)} {id v : Nat} {ob : Ob} : at_ O id v = some ob ↔ O id = some (v, ob) := by
  unfold at_
  cases h : O id with
  | none => simp
  | some p =>
    obtain ⟨v', ob'⟩ := p
    by_cases e : v' = v
    · subst e; simp
    · simp [e]

theorem tk_slice {P : Program} {t e : TypeId} (h : tk P t = .slice e) : P.underlying t = some (.slice e) := by
  unfold tk at h; split at h <;> simp_all

theorem tk_struct {P : Program} {t : TypeId} {l : List (Nat × TypeId)} (h : tk P t = .struct l) : ∃ fs : Array Field, P.underlying t = some (.struct fs) ∧ l = fs.toList.map fun f => (f.offset, f.type) := by
  unfold tk at h; split at h <;> simp_all

theorem tk_int {P : Program} {t : TypeId} {k : IntKind} (h : tk P t = .int k) : P.underlying t = some (.int k) := by
  unfold tk at h; split at h <;> simp_all

theorem tk_bool {P : Program} {t : TypeId} (h : tk P t = .bool) : P.underlying t = some .bool := by
  unfold tk at h; split at h <;> simp_all

theorem tk_string {P : Program} {t : TypeId} (h : tk P t = .string) : P.underlying t = some .string := by
  unfold tk at h; split at h <;> simp_all

theorem tk_func {P : Program} {t : TypeId} (h : tk P t = .func) : ∃ a b c, P.underlying t = some (.func a b c) := by
  unfold tk at h; split at h <;> simp_all

theorem info_of_und {P : Program} {t : TypeId} {d : TypeDesc} (h : P.underlying t = some d) : ∃ i, P.info? t = some i := by
  cases hi : P.info? t with
  | none => simp [Program.underlying, hi] at h
  | some i => exact ⟨i, rfl⟩

section
variable {P : Program} {n0 : Nat} {M : Nat → Prop} {F : Frz} {β : Beta} {U : Nat → Prop} {O : Nat → Option (Nat × Ob)} {look : Nat → Option AV} {a : Act} {w : World} {ver : Nat}

theorem run_und {t : TypeId} {d : TypeDesc} (h : P.underlying t = some d) : (underlying t).run P w = .ok d w := by simp [underlying, h]

theorem run_sizeOf {t : TypeId} {i : TypeInfo} (h : P.info? t = some i) : (sizeOf t).run P w = .ok (sz P t) w := by simp [sizeOf, typeInfo, h, sz]

theorem add_cell (b off j : Nat) : w.cell? ((⟨b, off, none⟩ : Addr).add j) = cellAt w.heap b (off + j) := by
  unfold Addr.add
  by_cases h : j = 0
  · subst h; simpa using cell?_eq w b off
  · simp only [h, if_false]; exact cell?_eq w b (off + j)

theorem cellAt_of {hp : Heap} {b i : Nat} {c : Array Value} {e : TypeId} {f : Nat × Nat} (h : hp[b]? = some (.cells c e f)) : cellAt hp b i = c[i]? := by simp [cellAt, h]

theorem pv_rep {F : Frz} {h : Heap} {d : D} (hd : plainD d = true) : DRep F h d (pv d) := by
  cases d <;> first | (simp [plainD] at hd; done) | constructor

theorem row_get {hp : Heap} {b o cap : Nat} {cells : List D} (r : RowB F hp b o cap cells) {i : Nat} {c : D} (hi : cells[i]? = some c) : ∃ v, cellAt hp b (o + i) = some v ∧ DRep F hp c v ∧ rowD c = true := by
  obtain ⟨cs, e, h, _, _, hx⟩ := r
  obtain ⟨h1, v, h2, h3⟩ := hx i c hi
  exact ⟨v, (cellAt_of h).trans h2, h3, h1⟩

theorem cell1_rep (I : Inv n0 M F β U O w.heap) {p c : AV} {v : Value} (r : VRep F w.heap β U p v) (hc : cell1 O p = some c) :
    ∃ b off u, v = .pointer (some ⟨b, off, none⟩) ∧ cellAt w.heap b off = some u ∧ VRep F w.heap β U c u := by
  cases r with
  | d x v hd =>
    cases hd with
    | cellp cells b off vs hv hm hr =>
      simp only [cell1] at hc
      obtain ⟨d, hd, hc⟩ := bnd_eq_some.1 hc
      simp only [Option.some.injEq] at hc; subst hc
      have h0 : 0 < vs.length := by rw [← hv]; exact (List.getElem?_eq_some_iff.1 hd).1
      obtain ⟨b', off', hA, _, hcell⟩ := hm 0 vs[0] (by simp [h0])
      simp only [Option.some.injEq, Addr.mk.injEq] at hA
      obtain ⟨rfl, rfl, _⟩ := hA
      exact ⟨b, off, vs[0], rfl, by simpa using hcell, .d _ _ (hr 0 d _ hd (by simp [h0]))⟩
    | _ => simp [cell1] at hc
  | ptr id r off v ho hu hv =>
    simp only [cell1] at hc
    split at hc
    · rename_i cells hat
      obtain ⟨L, hL, f, l, l', cs, e, hh, hs, hx⟩ := I.objs id r _ (at_iff.1 hat)
      obtain ⟨u, hu', hr⟩ := hx off c hc
      exact ⟨L.block, L.base + off, u, hv L hL, (cellAt_of hh).trans hu', hr⟩
    · rename_i cells hat
      obtain ⟨L, hL, f, l, hB⟩ := I.objs id r _ (at_iff.1 hat)
      obtain ⟨d, hd, hc⟩ := bnd_eq_some.1 hc
      simp only [Option.some.injEq] at hc; subst hc
      obtain ⟨u, h1, h2, _⟩ := row_get hB hd
      exact ⟨L.block, L.base + off, u, hv L hL, h1, .d _ _ h2⟩
    · rename_i op rows hat
      obtain ⟨L, hL, l, l', cs, e, inner, hh, hs, hi, h1, h2, h3, h4, h5⟩ := I.objs id r _ (at_iff.1 hat)
      obtain ⟨⟨hop, hlt⟩, hc⟩ := ite_some.1 hc
      have hc := Option.some.inj hc
      subst hc; subst hop
      have hlt' : off < inner.length := by omega
      refine ⟨L.block, L.base + off, inner[off], hv L hL, (cellAt_of hh).trans (h1 off _ (List.getElem?_eq_getElem hlt')), ?_⟩
      have hrow := h2 off rows[off] inner[off] (by simp [hlt]) (by simp [hlt'])
      refine .inn id r off _ ?_ hu fun L' hL' => ?_
      · rcases hrow with ⟨_, e⟩ | ⟨_, _, _, e, _⟩ <;> rw [e] <;> rfl
      · have : L' = L := by rw [hL] at hL'; simpa using hL'.symm
        subst this
        rw [h3]; simp [hlt']
    · rename_i w' rows cells hat
      obtain ⟨L, hL, l0, l, l', hi, ⟨cs, e, hh, hs, h1⟩, h2, h4, h5⟩ := I.objs id r _ (at_iff.1 hat)
      obtain ⟨p, hp, hc⟩ := bnd_eq_some.1 hc
      obtain ⟨u, hu', hr⟩ := h1 off p hp
      cases p with
      | d x =>
        simp only [Option.some.injEq] at hc; subst hc
        exact ⟨L.block, L.base + off, u, hv L hL, (cellAt_of hh).trans hu', .d _ _ hr.1⟩
      | r k =>
        simp only [Option.some.injEq] at hc; subst hc
        refine ⟨L.block, L.base + off, u, hv L hL, (cellAt_of hh).trans hu', .inn id r k _ ?_ hu fun L' hL' => ?_⟩
        · have hk : k < rows.length := by rw [← hi]; exact (List.getElem?_eq_some_iff.1 hr).1
          rcases h2 k rows[k] u (by simp [hk]) hr with ⟨_, e⟩ | ⟨_, _, _, e, _⟩ <;> rw [e] <;> rfl
        · have : L' = L := by rw [hL] at hL'; simpa using hL'.symm
          subst this
          exact hr
    · simp at hc
  | innp id r i j v ho hu hv =>
    simp only [cell1] at hc
    split at hc
    · rename_i op rows hat
      obtain ⟨L, hL, l, l', cs, e, inner, hh, hs, hi, h1, h2, h3, h4, h5⟩ := I.objs id r _ (at_iff.1 hat)
      obtain ⟨row, hrow, hc⟩ := bnd_eq_some.1 hc
      obtain ⟨d, hd, hc⟩ := bnd_eq_some.1 hc
      simp only [Option.some.injEq] at hc; subst hc
      obtain ⟨b, o, n, cp, hin, hval⟩ := hv L hL
      cases op with
      | true => rw [h3] at hin; simp at hin
      | false =>
        rw [h3] at hin
        simp only [Bool.false_eq_true, if_false] at hin
        rcases h2 i row _ hrow hin with ⟨rfl, e⟩ | ⟨b', o', cap', e, hB⟩
        · simp at hd
        · simp only [Value.slice.injEq, Option.some.injEq, Addr.mk.injEq] at e
          obtain ⟨⟨rfl, rfl, _⟩, rfl, rfl⟩ := e
          obtain ⟨u, g1, g2, _⟩ := row_get hB hd
          exact ⟨b, o + j, u, hval, g1, .d _ _ g2⟩
    · rename_i w' rows cells hat
      obtain ⟨L, hL, l0, l, l', hi, ⟨cs, e, hh, hs, h1⟩, h2, h4, h5⟩ := I.objs id r _ (at_iff.1 hat)
      obtain ⟨row, hrow, hc⟩ := bnd_eq_some.1 hc
      obtain ⟨d, hd, hc⟩ := bnd_eq_some.1 hc
      simp only [Option.some.injEq] at hc; subst hc
      obtain ⟨b, o, n, cp, hin, hval⟩ := hv L hL
      rcases h2 i row _ hrow hin with ⟨rfl, e⟩ | ⟨b', o', cap', e, hB⟩
      · simp at hd
      · simp only [Value.slice.injEq, Option.some.injEq, Addr.mk.injEq] at e
        obtain ⟨⟨rfl, rfl, _⟩, rfl, rfl⟩ := e
        obtain ⟨u, g1, g2, _⟩ := row_get hB hd
        exact ⟨b, o + j, u, hval, g1, .d _ _ g2⟩
    · simp at hc
  | _ => simp [cell1] at hc

theorem cellsN_rep (I : Inv n0 M F β U O w.heap) {p : AV} {v : Value} {n : Nat} {cs : List AV} (r : VRep F w.heap β U p v) (hc : cellsN O n p = some cs) :
    ∃ (b off : Nat) (us : List Value), v = .pointer (some ⟨b, off, none⟩) ∧ us.length = n ∧ cs.length = n ∧ (∀ (j : Nat) (u : Value), us[j]? = some u → cellAt w.heap b (off + j) = some u) ∧
      ∀ (j : Nat) (x : AV) (u : Value), cs[j]? = some x → us[j]? = some u → VRep F w.heap β U x u := by
  cases r with
  | d x v hd =>
    cases hd with
    | cellp cells b off vs hv hm hr =>
      simp only [cellsN] at hc
      obtain ⟨hn, hc⟩ := ite_some.1 hc
      have hc := Option.some.inj hc
      subst hc
      refine ⟨b, off, vs.take n, rfl, by simp; omega, by simp; omega, fun j u hu => ?_, fun j x u hx hu => ?_⟩
      · have hj : vs[j]? = some u := by
          rw [List.getElem?_take] at hu; split at hu <;> simp_all
        obtain ⟨b', off', hA, _, hcell⟩ := hm j u hj
        simp only [Option.some.injEq, Addr.mk.injEq] at hA
        obtain ⟨rfl, rfl, _⟩ := hA
        exact hcell
      · rw [List.getElem?_take] at hu
        split at hu
        · rename_i hjn
          simp only [List.getElem?_map, Option.map_eq_some_iff] at hx
          obtain ⟨d, hd, rfl⟩ := hx
          rw [List.getElem?_take, if_pos hjn] at hd
          exact .d _ _ (hr j d u hd hu)
        · simp at hu
    | _ => simp [cellsN] at hc
  | ptr id r off v ho hu hv =>
    simp only [cellsN] at hc
    split at hc
    · rename_i cells hat
      obtain ⟨L, hL, f, l, l', c, e, hh, hs, hx⟩ := I.objs id r _ (at_iff.1 hat)
      obtain ⟨hn, hc⟩ := ite_some.1 hc
      have hc := Option.some.inj hc
      subst hc
      have hsz : ∀ j, j < n → L.base + off + j < c.size := fun j hj => by omega
      refine ⟨L.block, L.base + off, (List.range n).map fun j => c.getD (L.base + off + j) undef, hv L hL, by simp, by simp; omega, fun j u hu => ?_, fun j x u hx' hu => ?_⟩
      · simp only [List.getElem?_map, Option.map_eq_some_iff, List.getElem?_range'] at hu
        obtain ⟨k, hk, rfl⟩ := hu
        have hjn : j < n := by have := (List.getElem?_eq_some_iff.1 hk).1; simpa using this
        have : k = j := by simpa [hjn] using hk.symm
        subst this
        rw [cellAt_of hh]
        simp [Array.getD, hsz k hjn]
      · simp only [List.getElem?_map, Option.map_eq_some_iff] at hu
        obtain ⟨k, hk, rfl⟩ := hu
        have hjn : j < n := by have := (List.getElem?_eq_some_iff.1 hk).1; simpa using this
        have : k = j := by simpa [hjn] using hk.symm
        subst this
        rw [List.getElem?_take, if_pos hjn, List.getElem?_drop] at hx'
        obtain ⟨u', hu', hr⟩ := hx (off + k) x hx'
        have : c.getD (L.base + off + k) undef = u' := by
          have := hsz k hjn
          simp only [Array.getD, this, dif_pos]
          have h2 : c[L.base + off + k]? = some u' := by rw [← hu']; congr 1; omega
          simpa [this] using h2
        rw [this]; exact hr
    · simp at hc
  | _ => simp [cellsN] at hc

variable {cx : Cx} (hP : cx.P = P) (H : Hyp n0 M F β U O look a w ver) {out : Out} {dst : Option Tmp} {ty : TypeId} {pos : String} {aft : Array Edge} {gd : Option (Nat × Bool)}
theorem unpin_rep {h : Heap} (b : Bool) {c : AV} {u : Value} (r : VRep F h β U c u) : VRep F h β U (unpin b c) u := by
  unfold unpin
  split
  · cases r with
    | d _ _ hd =>
      cases hd with
      | pin cells A len cap vs hl hc hv hm hr =>
        exact .d _ _ (.sl 1 _ _ _ _ vs (by omega) hc hv (fun j v hj => by
          obtain ⟨x, off, h1, h2, h3⟩ := hm j v hj
          exact ⟨x, off, h1, h2.1, h3⟩) fun i x v hx hv => by
          obtain ⟨q1, q2⟩ := hr i x v hx hv
          rw [q2]; exact pv_rep q1)
  · exact r
include H hP

theorem op_load {t : TypeId} {x : Operand} (h : evalOp cx look O ver ⟨dst, .load t x, ty, pos, aft, gd⟩ = some out) : Does P ⟨dst, .load t x, ty, pos, aft, gd⟩ a w (Post n0 M F β U O w ver out) := by
  subst hP
  simp only [evalOp] at h
  have one : ∀ {d : TypeDesc}, cx.P.underlying t = some d → (∀ fs, d ≠ .struct fs) → (∀ n e, d ≠ .array n e) → ∀ (g : AV → AV), (∀ c u, VRep F w.heap β U c u → VRep F w.heap β U (g c) u) →
      (bnd (opnd look x) fun p => bnd (cell1 O p) fun c => some { val := g c }) = some out → Does cx.P ⟨dst, .load t x, ty, pos, aft, gd⟩ a w (Post n0 M F β U O w ver out) := by
    intro d hd hns hna g hg h
    obtain ⟨p, hp, h⟩ := bnd_eq_some.1 h
    obtain ⟨c, hc, h⟩ := bnd_eq_some.1 h
    have h := Option.some.inj h
    subst h
    obtain ⟨b, off, u, he, hcell, hr⟩ := cell1_rep H.I (opnd_rep H hp) hc
    refine .inl ⟨u, w, ?_, Post.pure H.I (hg _ _ hr)⟩
    have hagg : (isAgg t).run cx.P w = .ok false w := by
      simp only [isAgg, Sem.run_bind, run_und hd, Result.andThen]
      cases d <;> first | rfl | exact absurd rfl (hns _) | exact absurd rfl (hna _ _)
    simp [execOp, Instr.loadAt, he, Instr.sureAddr, loadVar, hagg, cell?_eq, hcell]
  split at h
  · rename_i fs htk
    obtain ⟨p, hp, h⟩ := bnd_eq_some.1 h
    obtain ⟨cs, hc, h⟩ := bnd_eq_some.1 h
    have h := Option.some.inj h
    subst h
    obtain ⟨fs', hund, _⟩ := tk_struct htk
    obtain ⟨i, hi⟩ := info_of_und hund
    obtain ⟨b, off, us, he, hl, hl', hcell, hr⟩ := cellsN_rep H.I (opnd_rep H hp) hc
    refine .inl ⟨.agg us.toArray, w, ?_, Post.pure H.I (.agg _ _ (by simp; omega) fun j x u hx hu => hr j x u hx (by simpa using hu))⟩
    have hagg : (isAgg t).run cx.P w = .ok true w := by
      simp only [isAgg, Sem.run_bind, run_und hund, Result.andThen]; rfl
    have hload := run_loadCells_list (P := cx.P) w ⟨b, off, none⟩ us (fun j v hv => (add_cell b off j).trans (hcell j v hv))
    rw [hl] at hload
    simp [execOp, Instr.loadAt, he, Instr.sureAddr, loadVar, hagg, run_sizeOf hi, hload]
  · simp at h
  · rename_i e htk
    exact one (tk_slice htk) (by simp) (by simp) _ (fun c u hr => unpin_rep _ hr) h
  · rename_i k h1 h2 h3
    cases htk : tk cx.P t with
    | slice e => exact absurd htk (h3 e)
    | int k => exact one (tk_int htk) (by simp) (by simp) (fun c => c) (fun _ _ h => h) h
    | bool => exact one (tk_bool htk) (by simp) (by simp) (fun c => c) (fun _ _ h => h) h
    | string => exact one (tk_string htk) (by simp) (by simp) (fun c => c) (fun _ _ h => h) h
    | func => obtain ⟨_, _, _, hu⟩ := tk_func htk; exact one hu (by simp) (by simp) (fun c => c) (fun _ _ h => h) h
    | struct fs => exact absurd htk (h1 fs)
    | other => exact absurd htk h2
end
end Go.Proofs.YtnfhglplafmfiaaGreatE

namespace Go.Proofs.YtnfhglplafmfiaaGreatE
set_option linter.unusedSectionVars false
set_option linter.unusedSimpArgs false
set_option linter.unusedVariables false
open Go
set_option linter.unusedSectionVars false

def wr (w : World) (b : Nat) (c : Array Value) (e : TypeId) : World := { w with heap := w.heap.setIfInBounds b (.cells c e (0, 0)) }

def putA (c : Array Value) (off : Nat) : List Value → Array Value
  | [] => c
  | v :: vs => putA (c.setIfInBounds off v) (off + 1) vs

theorem size_putA (c : Array Value) (off : Nat) (vs : List Value) : (putA c off vs).size = c.size := by
  induction vs generalizing c off with
  | nil => rfl
  | cons v vs ih => simp [putA, ih]

section
variable {P : Program} {n0 : Nat} {M : Nat → Prop} {F : Frz} {β : Beta} {U : Nat → Prop} {O : Nat → Option (Nat × Ob)} {look : Nat → Option AV} {a : Act} {w : World} {ver : Nat}

theorem wr_heap {b : Nat} {c c' : Array Value} {e e' : TypeId} {f : Nat × Nat} (h : w.heap[b]? = some (.cells c e f)) : (wr w b c' e').heap[b]? = some (.cells c' e' (0, 0)) := by
  have hb : b < w.heap.size := by
    rcases Nat.lt_or_ge b w.heap.size with h1 | h1
    · exact h1
    · simp [Array.getElem?_eq_none h1] at h
  simp [wr, hb]

theorem wr_other {b b' : Nat} {c : Array Value} {e : TypeId} (h : b' ≠ b) : (wr w b c e).heap[b']? = w.heap[b']? := by
  simp only [wr]
  rw [Array.getElem?_setIfInBounds_ne (by omega)]

theorem wr_wr {b : Nat} {c c' : Array Value} {e : TypeId} : wr (wr w b c e) b c' e = wr w b c' e := by
  simp [wr]

theorem setCell_wr {b off : Nat} {c : Array Value} {e : TypeId} {v : Value} (h : w.heap[b]? = some (.cells c e (0, 0))) : w.setCell ⟨b, off, none⟩ v = wr w b (c.setIfInBounds off v) e := by
  have hb : b < w.heap.size := by
    rcases Nat.lt_or_ge b w.heap.size with h1 | h1
    · exact h1
    · simp [Array.getElem?_eq_none h1] at h
  simp only [World.setCell, wr]
  congr 1
  apply Array.ext_getElem?
  intro i
  by_cases hi : b = i
  · subst hi
    rw [Array.getElem?_modify, if_pos rfl, h]
    simp [hb]
  · simp [Array.getElem?_modify, hi, Array.getElem?_setIfInBounds_ne]

theorem run_store1 {b off : Nat} {c : Array Value} {e : TypeId} {v : Value} (h : w.heap[b]? = some (.cells c e (0, 0))) (ho : off < c.size) (hv : v.oneCell' = true) :
    (store ⟨b, off, none⟩ v).run P w = .ok () (wr w b (c.setIfInBounds off v) e) := by
  rw [run_store P w _ v _ hv]
  have h1 : w.cell? ⟨b, off, none⟩ = some c[off] := by rw [cell?_eq, cellAt_of h]; simp [ho]
  have h2 : w.frozen? ⟨b, off, none⟩ = false := by simp [World.frozen?, h]
  simp only [h1, h2]
  rw [setCell_wr h]; rfl

theorem run_storeCells {b off : Nat} {e : TypeId} (vs : List Value) : ∀ (i : Nat) (w : World) (c : Array Value), w.heap[b]? = some (.cells c e (0, 0)) → off + i + vs.length ≤ c.size →
    (∀ v ∈ vs, v.oneCell' = true) → (storeCells ⟨b, off, none⟩ vs i).run P w = .ok () (if vs = [] then w else wr w b (putA c (off + i) vs) e) := by
  induction vs with
  | nil => intro i w c h hl hv; simp [storeCells]
  | cons v vs ih =>
    intro i w c h hl hv
    simp only [List.length_cons] at hl
    have ha : (⟨b, off, none⟩ : Addr).add i = ⟨b, off + i, none⟩ := by unfold Addr.add; by_cases h0 : i = 0 <;> simp [h0]
    have h1 := run_store1 (P := P) (w := w) (b := b) (off := off + i) (v := v) h (by omega) (hv v (by simp))
    have h2 := ih (i + 1) (wr w b (c.setIfInBounds (off + i) v) e) (c.setIfInBounds (off + i) v) (wr_heap h) (by simp; omega) (fun u hu => hv u (by simp [hu]))
    simp only [storeCells, Sem.run_bind, ha, h1, Result.andThen_ok, h2]
    by_cases hn : vs = []
    · subst hn; simp [putA]
    · simp [hn, putA, wr_wr, Nat.add_assoc]

/-- Cells and what they stand for, from a place on. -/
def CRel (F : Frz) (h : Heap) (β : Beta) (U : Nat → Prop) (cells : List AV) (c : Array Value) (base : Nat) : Prop :=
  base + cells.length ≤ c.size ∧ ∀ (i : Nat) (x : AV), cells[i]? = some x → ∃ v, c[base + i]? = some v ∧ VRep F h β U x v

theorem CRel.set {h : Heap} {cells : List AV} {c : Array Value} {base off : Nat} {x : AV} {v : Value} (r : CRel F h β U cells c base) (hr : VRep F h β U x v) :
    CRel F h β U (cells.set off x) (c.setIfInBounds (base + off) v) base := by
  obtain ⟨r1, r2⟩ := r
  refine ⟨by simpa using r1, fun i y hy => ?_⟩
  rw [List.getElem?_set] at hy
  by_cases e : off = i
  · subst e
    simp only [if_true] at hy
    split at hy
    · rename_i hlt
      simp only [Option.some.injEq] at hy; subst hy
      exact ⟨v, by rw [Array.getElem?_setIfInBounds]; simp; omega, hr⟩
    · simp at hy
  · simp only [e, if_false] at hy
    obtain ⟨u, hu, hr'⟩ := r2 i y hy
    refine ⟨u, ?_, hr'⟩
    rw [Array.getElem?_setIfInBounds_ne (by omega)]; exact hu

theorem CRel.put {h : Heap} {base : Nat} : ∀ (xs : List AV) (vs : List Value) (cells : List AV) (c : Array Value) (off : Nat), CRel F h β U cells c base → xs.length = vs.length →
    (∀ (i : Nat) (x : AV) (v : Value), xs[i]? = some x → vs[i]? = some v → VRep F h β U x v) → CRel F h β U (setFrom cells off xs) (putA c (base + off) vs) base
  | [], [], cells, c, off, r, _, _ => r
  | _ :: xs, v :: vs, cells, c, off, r, hl, hr => by
    have := CRel.put xs vs (cells.set off _) (c.setIfInBounds (base + off) v) (off + 1) (r.set (hr 0 _ v rfl rfl)) (by simpa using hl) (fun i x v hx hv => hr (i + 1) x v hx hv)
    simpa [setFrom, putA, Nat.add_assoc] using this
  | [], _ :: _, _, _, _, _, hl, _ => by simp at hl
  | _ :: _, [], _, _, _, _, hl, _ => by simp at hl

theorem length_setFrom {α : Type} (cells : List α) (off : Nat) (vs : List α) : (setFrom cells off vs).length = cells.length := by
  induction vs generalizing cells off with
  | nil => rfl
  | cons v vs ih => simp [setFrom, ih]

theorem Ext.wr {b : Nat} {c : Array Value} {e : TypeId} (hb : ¬ F b) : Ext F w.heap β U F (wr w b c e).heap β U :=
  ⟨fun _ h => h, fun x hx => wr_other (fun e => hb (e ▸ hx)), fun _ h => h, fun _ _ L _ h => ⟨L, h, rfl, rfl, rfl, rfl, rfl⟩, fun _ h => h, fun _ h => .inl h⟩

theorem size_wr {b : Nat} {c : Array Value} {e : TypeId} : (wr w b c e).heap.size = w.heap.size := by simp [wr]

theorem Stp.wr (I : Inv n0 M F β U O w.heap) {id r : Nat} {L : Loc} (hL : β id = some (r, L)) {b : Nat} (hb : b ∈ L.fp) (c : Array Value) (e : TypeId) : Stp n0 M w (wr w b c e) :=
  ⟨rfl, rfl, rfl, Nat.le_of_eq size_wr.symm, fun x hx hm => wr_other (fun e => by
    subst e
    rcases (I.out id r L hL x hb).2.2 with h | h
    · omega
    · exact hm h)⟩

/-- A store into an object, with a value. -/
theorem Post.writeV (I : Inv n0 M F β U O w.heap) {id r : Nat} {L : Loc} (hL : β id = some (r, L)) {b : Nat} (hb : b ∈ L.fp) (c : Array Value) (e : TypeId) (ob : Ob)
    (hob : ORep F (wr w b c e).heap β U L ob) {x : AV} {val : Value} (hx : VRep F (wr w b c e).heap β U x val) : Post n0 M F β U O w ver { val := x, upd := [(id, some (r, ob))] } val (wr w b c e) := by
  have E : Ext F w.heap β U F (wr w b c e).heap β U := Ext.wr (I.out id r L hL b hb).1
  refine ⟨F, β, U, I.upd id r L ob [] (fun j => updO_put (rem := []) j) (fun j => ?_) E (I.used id r L hL) hob ?_ ?_ (Nat.le_of_eq size_wr.symm), hx, E, fun _ h => .inl h, Stp.wr I hL hb c e⟩
  · by_cases h : j = id
    · subst h; simp [hL]
    · simp [h]
  · exact fun y hy => .inr ⟨id, r, L, .inl rfl, hL, hy⟩
  · intro j v' L' hj hne _ y hy
    exact wr_other (fun e => by subst e; exact I.disj j v' L' id r L hj hL hne y hy hb)

theorem wr_self {b : Nat} {c : Array Value} {e : TypeId} (h : w.heap[b]? = some (.cells c e (0, 0))) : wr w b c e = w := by
  obtain ⟨hb, he⟩ := Array.getElem?_eq_some_iff.1 h
  unfold wr
  have : w.heap.setIfInBounds b (.cells c e (0, 0)) = w.heap := by
    rw [← he]; simp [Array.setIfInBounds, hb]
  rw [this]

/-- A store into an object. -/
theorem Post.write (I : Inv n0 M F β U O w.heap) {id r : Nat} {L : Loc} (hL : β id = some (r, L)) {b : Nat} (hb : b ∈ L.fp) (c : Array Value) (e : TypeId) (ob : Ob)
    (hob : ORep F (wr w b c e).heap β U L ob) (val : Value) : Post n0 M F β U O w ver { val := .undef, upd := [(id, some (r, ob))] } val (wr w b c e) := by
  have E : Ext F w.heap β U F (wr w b c e).heap β U := Ext.wr (I.out id r L hL b hb).1
  refine ⟨F, β, U, I.upd id r L ob [] (fun j => updO_put (rem := []) j) (fun j => ?_) E (I.used id r L hL) hob ?_ ?_ (Nat.le_of_eq size_wr.symm), .undef _, E, fun _ h => .inl h, Stp.wr I hL hb c e⟩
  · by_cases h : j = id
    · subst h; simp [hL]
    · simp [h]
  · exact fun x hx => .inr ⟨id, r, L, .inl rfl, hL, hx⟩
  · intro j v' L' hj hne _ x hx
    exact wr_other (fun e => by subst e; exact I.disj j v' L' id r L hj hL hne x hx hb)

theorem flatMap_set_nodup {x : Value} : ∀ (l : List Value) (i : Nat), (l.flatMap blockOf).Nodup → (blockOf x).Nodup → (∀ b ∈ blockOf x, b ∉ l.flatMap blockOf) →
    ((l.set i x).flatMap blockOf).Nodup ∧ ∀ b ∈ (l.set i x).flatMap blockOf, b ∈ blockOf x ∨ b ∈ l.flatMap blockOf
  | [], i, h, _, _ => by simp
  | y :: l, 0, h, hx, hd => by
    simp only [List.flatMap_cons, List.nodup_append, List.set_cons_zero, List.mem_append] at *
    refine ⟨⟨hx, h.2.1, fun a ha b hb e => hd a ha (.inr (e ▸ hb))⟩, fun b hb => hb.elim .inl fun h => .inr (.inr h)⟩
  | y :: l, i + 1, h, hx, hd => by
    simp only [List.flatMap_cons, List.nodup_append, List.set_cons_succ, List.mem_append] at *
    obtain ⟨h1, h2⟩ := flatMap_set_nodup l i h.2.1 hx (fun b hb hm => hd b hb (.inr hm))
    refine ⟨⟨h.1, h1, fun a ha b hb e => ?_⟩, fun b hb => ?_⟩
    · subst e
      rcases h2 a hb with hb | hb
      · exact hd a hb (.inl ha)
      · exact h.2.2 a ha a hb rfl
    · rcases hb with hb | hb
      · exact .inr (.inl hb)
      · rcases h2 b hb with hb | hb
        · exact .inl hb
        · exact .inr (.inr hb)
end
end Go.Proofs.YtnfhglplafmfiaaGreatE

namespace Go.Proofs.YtnfhglplafmfiaaGreatE
set_option linter.unusedSectionVars false
set_option linter.unusedSimpArgs false
set_option linter.unusedVariables false
open Go
set_option linter.unusedSectionVars false

section
variable {P : Program} {n0 : Nat} {M : Nat → Prop} {F : Frz} {β : Beta} {U : Nat → Prop} {O : Nat → Option (Nat × Ob)} {look : Nat → Option AV} {a : Act} {w : World} {ver : Nat}
variable {cx : Cx} (hP : cx.P = P) (H : Hyp n0 M F β U O look a w ver) {out : Out} {dst : Option Tmp} {ty : TypeId} {pos : String} {aft : Array Edge} {gd : Option (Nat × Bool)}

theorem plain_pv {h : Heap} {d : D} {v : Value} (r : DRep F h d v) (hp : plainD d = true) : v = pv d := by
  cases r <;> first | rfl | simp [plainD] at hp

/-- Cells of a row over a world with one block written. -/
theorem wr_frz {b : Nat} {c : Array Value} {e : TypeId} (hF : ¬ F b) : ∀ b', F b' → (wr w b c e).heap[b']? = w.heap[b']? := fun b' hb => wr_other (fun e1 => hF (e1 ▸ hb))

theorem RowB.set {b o cap : Nat} {cells : List D} {c : Array Value} {e : TypeId} (hb : w.heap[b]? = some (.cells c e (0, 0))) (r : RowB F w.heap b o cap cells) {i : Nat} {d : D} {v : Value} (hd : rowD d = true) (hv : DRep F w.heap d v) (hF : ¬ F b) :
    RowB F (wr w b (c.setIfInBounds (o + i) v) e).heap b o cap (cells.set i d) := by
  obtain ⟨c', e', h1, h2, h3, h4⟩ := r
  rw [hb] at h1
  simp only [Option.some.injEq, Obj.cells.injEq, and_true] at h1
  obtain ⟨rfl, rfl⟩ := h1
  have hE := wr_frz (w := w) (c := c.setIfInBounds (o + i) v) (e := e) hF
  refine ⟨_, e, wr_heap hb, by simpa using h2, by simpa using h3, fun j x hx => ?_⟩
  rw [List.getElem?_set] at hx
  by_cases hij : i = j
  · subst hij
    simp only [if_true] at hx
    split at hx
    · simp only [Option.some.injEq] at hx; subst hx
      exact ⟨hd, v, by rw [Array.getElem?_setIfInBounds]; simp; omega, hv.ext (fun _ h => h) (fun _ h => h) hE⟩
    · simp at hx
  · simp only [hij, if_false] at hx
    obtain ⟨g1, u, g2, g3⟩ := h4 j x hx
    exact ⟨g1, u, by rw [Array.getElem?_setIfInBounds_ne (by omega)]; exact g2, g3.ext (fun _ h => h) (fun _ h => h) hE⟩

theorem plain_row {d : D} (h : plainD d = true) : rowD d = true := by cases d <;> first | rfl | simp [plainD] at h

theorem rowp_put {hh : Heap} : ∀ (ds : List D) (cells : List D) (c : Array Value) (o i : Nat), (∀ d ∈ ds, plainD d = true) → i + ds.length ≤ cells.length → o + cells.length ≤ c.size →
    (∀ (j : Nat) (d : D), cells[j]? = some d → rowD d = true ∧ ∃ v, c[o + j]? = some v ∧ DRep F hh d v) → ∀ (j : Nat) (d : D), (setFrom cells i ds)[j]? = some d → rowD d = true ∧ ∃ v, (putA c (o + i) (ds.map pv))[o + j]? = some v ∧ DRep F hh d v
  | [], _, _, _, _, _, _, _, h => h
  | d0 :: ds, cells, c, o, i, hp, hl, hs, h => by
    have := rowp_put (hh := hh) ds (cells.set i d0) (c.setIfInBounds (o + i) (pv d0)) o (i + 1) (fun d hd => hp d (List.mem_cons_of_mem _ hd)) (by simp at hl ⊢; omega) (by simpa using hs) (fun j x hx => by
      rw [List.getElem?_set] at hx
      simp only [List.length_cons] at hl
      by_cases hij : i = j
      · subst hij
        simp only [if_true] at hx
        split at hx
        · simp only [Option.some.injEq] at hx; subst hx
          exact ⟨plain_row (hp _ (by simp)), pv d0, by rw [Array.getElem?_setIfInBounds]; simp; omega, pv_rep (hp _ (by simp))⟩
        · simp at hx
      · simp only [hij, if_false] at hx
        obtain ⟨g1, u, g2, g3⟩ := h j x hx
        exact ⟨g1, u, by rw [Array.getElem?_setIfInBounds_ne (by omega)]; exact g2, g3⟩)
    simpa [setFrom, putA, Nat.add_assoc] using this

theorem RowB.put {b o cap : Nat} {cells : List D} {c : Array Value} {e : TypeId} (hb : w.heap[b]? = some (.cells c e (0, 0))) (r : RowB F w.heap b o cap cells) {i : Nat} {ds : List D} (hd : ∀ d ∈ ds, plainD d = true) (hl : i + ds.length ≤ cells.length) (hF : ¬ F b) :
    RowB F (wr w b (putA c (o + i) (ds.map pv)) e).heap b o cap (setFrom cells i ds) := by
  obtain ⟨c', e', h1, h2, h3, h4⟩ := r
  rw [hb] at h1
  simp only [Option.some.injEq, Obj.cells.injEq, and_true] at h1
  obtain ⟨rfl, rfl⟩ := h1
  have hE := wr_frz (w := w) (c := putA c (o + i) (ds.map pv)) (e := e) hF
  refine ⟨_, e, wr_heap hb, by simpa [size_putA] using h2, by simpa [length_setFrom] using h3, rowp_put ds cells c o i hd hl (by omega) fun j d hj => ?_⟩
  obtain ⟨g1, u, g2, g3⟩ := h4 j d hj
  exact ⟨g1, u, g2, g3.ext (fun _ h => h) (fun _ h => h) hE⟩

theorem run_store {t : TypeId} {x y : Operand} {i : TypeInfo} (hi : P.info? t = some i) {b off : Nat} {c : Array Value} {e : TypeId} (hx : a.eval x = .pointer (some ⟨b, off, none⟩))
    (hs : (a.eval y).cells.size = sz P t) (hc : w.heap[b]? = some (.cells c e (0, 0))) (hl : off + (a.eval y).cells.size ≤ c.size) (h1 : ∀ u ∈ (a.eval y).cells.toList, u.oneCell' = true) :
    (execOp a.eval ⟨dst, .store t x y, ty, pos, aft, gd⟩).run P w = .ok .skip (if (a.eval y).cells.toList = [] then w else wr w b (putA c off (a.eval y).cells.toList) e) := by
  have := run_storeCells (P := P) (b := b) (off := off) (e := e) (a.eval y).cells.toList 0 w c hc (by simpa using hl) h1
  simp only [execOp, Instr.storeAt, hx, Instr.sureAddr, storeVar, Sem.run_bind, Sem.run_pure, Result.andThen_ok, run_sizeOf hi]
  rw [if_neg (by simpa using hs)]
  simp only [Sem.run_bind, Sem.run_pure, Result.andThen_ok, this, Nat.add_zero]

theorem nodup_two : ∀ {l : List Value} {i k : Nat} {x y : Value} {b : Nat}, (l.flatMap blockOf).Nodup → i ≠ k → l[i]? = some x → l[k]? = some y → b ∈ blockOf x → b ∈ blockOf y → False
  | [], _, _, _, _, _, _, _, hx, _, _, _ => by simp at hx
  | z :: l, 0, 0, _, _, _, _, hne, _, _, _, _ => hne rfl
  | z :: l, 0, k + 1, x, y, b, hn, _, hx, hy, hbx, hby => by
    simp only [List.flatMap_cons, List.nodup_append] at hn
    simp at hx hy; subst hx
    exact hn.2.2 b hbx b (List.mem_flatMap.2 ⟨y, List.mem_of_getElem? hy, hby⟩) rfl
  | z :: l, i + 1, 0, x, y, b, hn, _, hx, hy, hbx, hby => by
    simp only [List.flatMap_cons, List.nodup_append] at hn
    simp at hx hy; subst hy
    exact hn.2.2 b hby b (List.mem_flatMap.2 ⟨x, List.mem_of_getElem? hx, hbx⟩) rfl
  | z :: l, i + 1, k + 1, x, y, b, hn, hne, hx, hy, hbx, hby => by
    simp only [List.flatMap_cons, List.nodup_append] at hn
    simp at hx hy
    exact nodup_two hn.2.1 (by omega) hx hy hbx hby

theorem per_of_mat {h : Heap} {L : Loc} {rows : List (List D)} (r : ORep F h β U L (.mat false rows)) : ORep F h β U L (.per 1 rows (idxR rows.length)) := by
  obtain ⟨l, l', c, e, inner, hh, hs, hi', g1, g2, g3, g4, g5⟩ := r
  simp only [Bool.false_eq_true, if_false] at g3
  subst g3
  refine ⟨by omega, by simp [idxR, l], l', hi', ⟨c, e, hh, by omega, fun i p hp => ?_⟩, g2, g4, g5⟩
  simp only [idxR, List.getElem?_map, Option.map_eq_some_iff] at hp
  obtain ⟨k, hk, rfl⟩ := hp
  obtain ⟨hlt, hk2⟩ := List.getElem?_eq_some_iff.1 hk
  simp only [List.getElem_range] at hk2
  subst hk2
  have hlt' : i < L.inner.length := by rw [hi']; simpa using hlt
  exact ⟨L.inner[i], g1 i _ (List.getElem?_eq_getElem hlt'), List.getElem?_eq_getElem hlt'⟩

theorem pcOf_rep {h : Heap} {id r : Nat} {L : Loc} {x : AV} {p : PC} {v : Value} (hL : β id = some (r, L)) (rx : VRep F h β U x v) (hp : pcOf id r x = some p) : PRep F h L.inner p v := by
  cases rx with
  | inn id' r' k v ho hu hv =>
    simp only [pcOf] at hp
    obtain ⟨⟨rfl, rfl⟩, hp2⟩ := ite_some.1 hp
    simp only [Option.some.injEq] at hp2; subst hp2
    exact hv L hL
  | d x v hd =>
    simp only [pcOf] at hp
    obtain ⟨hpl, hp⟩ := ite_some.1 hp
    simp only [Option.some.injEq] at hp; subst hp
    refine ⟨hd, ?_⟩
    rw [plain_pv hd hpl]
    cases x <;> first | (simp [plainD] at hpl; done) | rfl
  | _ => simp [pcOf] at hp

theorem per_set {L : Loc} {w' : Nat} {rows : List (List D)} {cells : List PC} {off : Nat} {p : PC} {u : Value} {c : Array Value} {e : TypeId} (hr : ORep F w.heap β U L (.per w' rows cells))
    (hh : w.heap[L.block]? = some (.cells c e (0, 0))) (hoff : off < cells.length) (hp : PRep F w.heap L.inner p u) (hF : ¬ F L.block) :
    ORep F (wr w L.block (c.setIfInBounds (L.base + off) u) e).heap β U L (.per w' rows (cells.set off p)) := by
  obtain ⟨l0, l, l', hi, ⟨c', e', hc, hs, h1⟩, h2, h4, h5⟩ := hr
  have hE : ∀ b, F b → (wr w L.block (c.setIfInBounds (L.base + off) u) e).heap[b]? = w.heap[b]? := fun b hb => wr_other (fun e1 => hF (e1 ▸ hb))
  rw [hh] at hc
  simp only [Option.some.injEq, Obj.cells.injEq, and_true] at hc
  obtain ⟨rfl, rfl⟩ := hc
  have hle : L.len * w' ≤ L.cap * w' := Nat.mul_le_mul_right _ l'
  have back : ∀ {q : PC} {v : Value}, PRep F w.heap L.inner q v → PRep F (wr w L.block (c.setIfInBounds (L.base + off) u) e).heap L.inner q v := by
    intro q v hq
    cases q with
    | d x => exact ⟨hq.1.ext (fun _ h => h) (fun _ h => h) hE, hq.2⟩
    | r k => exact hq
  rw [h4] at h5
  simp only [List.nodup_cons] at h5
  refine ⟨l0, by simpa using l, l', hi, ⟨_, e, wr_heap hh, by simpa using hs, fun i q hq => ?_⟩, fun k row x hrow hx => ?_, h4, by rw [h4, List.nodup_cons]; exact h5⟩
  · rw [List.getElem?_set] at hq
    by_cases hk : off = i
    · subst hk
      simp only [if_true, hoff, Option.some.injEq] at hq
      subst hq
      refine ⟨u, ?_, back hp⟩
      rw [Array.getElem?_setIfInBounds]
      simp; omega
    · simp only [hk, if_false] at hq
      obtain ⟨v, hv, hr⟩ := h1 i q hq
      refine ⟨v, ?_, back hr⟩
      rw [Array.getElem?_setIfInBounds_ne (by omega)]; exact hv
  · rcases h2 k row x hrow hx with h | ⟨b, o, cap, hx', hB⟩
    · exact .inl h
    · refine .inr ⟨b, o, cap, hx', hB.ext (fun _ h => h) (fun _ h => h) hE (wr_other fun e1 => h5.1 ?_)⟩
      subst e1
      exact List.mem_flatMap.2 ⟨x, List.mem_of_getElem? hx, by simp [hx', blockOf]⟩

theorem per_row {L : Loc} {w' : Nat} {rows : List (List D)} {cells : List PC} {i j : Nat} {row : List D} {d : D} {u : Value} {b o cp : Nat} {c : Array Value} {e : TypeId} (hr : ORep F w.heap β U L (.per w' rows cells))
    (hrow : rows[i]? = some row) (hin : L.inner[i]? = some (.slice (some ⟨b, o, none⟩) row.length cp)) (hB : RowB F w.heap b o cp row) (hh : w.heap[b]? = some (.cells c e (0, 0))) (hpl : rowD d = true) (hu : DRep F w.heap d u) (hF : ¬ F b) :
    ORep F (wr w b (c.setIfInBounds (o + j) u) e).heap β U L (.per w' (rows.set i (row.set j d)) cells) := by
  obtain ⟨l0, l, l', hi, ⟨c', e', hc, hs, h1⟩, h2, h4, h5⟩ := hr
  have hE : ∀ b', F b' → (wr w b (c.setIfInBounds (o + j) u) e).heap[b']? = w.heap[b']? := fun b' hb => wr_other (fun e1 => hF (e1 ▸ hb))
  rw [h4] at h5
  simp only [List.nodup_cons] at h5
  have hbne : L.block ≠ b := fun e1 => h5.1 (List.mem_flatMap.2 ⟨_, List.mem_of_getElem? hin, by simp [blockOf, e1]⟩)
  refine ⟨l0, l, l', by simpa using hi, ⟨c', e', (wr_other hbne).trans hc, hs, fun k q hq => ?_⟩, fun k row' x hrow' hx => ?_, h4, by rw [h4, List.nodup_cons]; exact h5⟩
  · obtain ⟨v, hv, hr⟩ := h1 k q hq
    refine ⟨v, hv, ?_⟩
    cases q with
    | d x => exact ⟨hr.1.ext (fun _ h => h) (fun _ h => h) hE, hr.2⟩
    | r k => exact hr
  · rw [List.getElem?_set] at hrow'
    by_cases hk : i = k
    · subst hk
      simp only [if_true] at hrow'
      split at hrow'
      · simp only [Option.some.injEq] at hrow'; subst hrow'
        rw [hin] at hx
        simp only [Option.some.injEq] at hx; subst hx
        exact .inr ⟨b, o, cp, by simp, RowB.set hh hB hpl hu hF⟩
      · simp at hrow'
    · simp only [hk, if_false] at hrow'
      rcases h2 k row' x hrow' hx with h | ⟨b2, o2, cap2, hz2, hB2⟩
      · exact .inl h
      · refine .inr ⟨b2, o2, cap2, hz2, hB2.ext (fun _ h => h) (fun _ h => h) hE (wr_other fun e1 => ?_)⟩
        subst e1
        exact nodup_two h5.2 hk hin hx (b := b2) (by simp [blockOf]) (by simp [hz2, blockOf])

include H

theorem rowsOf_spec {v : AV} {cs : List D} {used : List Nat} (hr : rowsOf O v = some (cs, used)) {u : Value} (r : VRep F w.heap β U v u) :
    (cs = [] ∧ used = [] ∧ u = .slice none 0 0) ∨ ∃ id va L, v = .own id va ∧ used = [id] ∧ O id = some (va, .row cs) ∧ β id = some (va, L) ∧ L.fp = [L.block] ∧ L.len = cs.length ∧
      RowB F w.heap L.block L.base L.cap cs ∧ u = .slice (some ⟨L.block, L.base, none⟩) cs.length L.cap := by
  cases r with
  | own id va _ ho hu hv =>
    simp only [rowsOf] at hr
    split at hr
    · rename_i cells hat
      simp only [Option.some.injEq, Prod.mk.injEq] at hr
      obtain ⟨rfl, rfl⟩ := hr
      obtain ⟨L, hL, f, l, hB⟩ := H.I.objs id va _ (at_iff.1 hat)
      exact .inr ⟨id, va, L, rfl, rfl, at_iff.1 hat, hL, f, l, hB, by rw [← l]; exact hv L hL⟩
    · simp at hr
  | d x _ hd =>
    cases hd with
    | nil =>
      simp only [rowsOf, Option.some.injEq, Prod.mk.injEq] at hr
      obtain ⟨rfl, rfl⟩ := hr
      exact .inl ⟨rfl, rfl, rfl⟩
    | _ => simp [rowsOf] at hr
  | _ => simp [rowsOf] at hr

include hP

theorem op_store {t : TypeId} {x y : Operand} (h : evalOp cx look O ver ⟨dst, .store t x y, ty, pos, aft, gd⟩ = some out) : Does P ⟨dst, .store t x y, ty, pos, aft, gd⟩ a w (Post n0 M F β U O w ver out) := by
  have hP' := hP
  subst hP
  simp only [evalOp] at h
  obtain ⟨p, hp, h⟩ := bnd_eq_some.1 h
  obtain ⟨v, hv, h⟩ := bnd_eq_some.1 h
  obtain ⟨⟨hok, hpos, hsz⟩, h⟩ := ite_some.1 h
  have rp := opnd_rep H hp
  have rv := opnd_rep H hv
  obtain ⟨hl, hcs⟩ := cells_rep rv hok
  obtain ⟨i, hi⟩ : ∃ i, cx.P.info? t = some i := by
    cases hi : cx.P.info? t with
    | some i => exact ⟨i, rfl⟩
    | none =>
      exfalso
      have h0 : sz cx.P t = 0 := by simp [sz, hi]
      omega
  have hs' : (a.eval y).cells.size = sz cx.P t := by omega
  have h1 : ∀ u ∈ (a.eval y).cells.toList, u.oneCell' = true := by
    intro u hu
    obtain ⟨k, hk, rfl⟩ := List.mem_iff_getElem.1 hu
    have hk' : k < (cellsOf v).length := by rw [hl]; simpa using hk
    exact (hcs k _ _ (List.getElem?_eq_getElem hk') (by simp)).2
  generalize hav : a.eval x = av at rp
  have poolC : ∀ {id r off w' : Nat} {L : Loc} {rows : List (List D)} {cells : List PC}, opnd look x = some p → p = .ptr id r off → β id = some (r, L) → ORep F w.heap β U L (.per w' rows cells) → off < cells.length →
      (match cellsOf v with | [c] => bnd (pcOf id r c) fun p => some { val := .undef, upd := [(id, some (r, .per w' rows (cells.set off p)))] } | _ => none) = some out →
      Does cx.P ⟨dst, .store t x y, ty, pos, aft, gd⟩ a w (Post n0 M F β U O w ver out) := by
    intro id r off w' L rows cells hp' hpe hL hrep hoff hst
    subst hpe
    cases rp with
    | ptr _ _ _ _ ho hu hvp =>
      split at hst
      · rename_i cv hcv
        obtain ⟨q, hq, hst⟩ := bnd_eq_some.1 hst
        have hst := Option.some.inj hst
        subst hst
        have hrep' := hrep
        obtain ⟨l0, l, l', hi2, ⟨c, e, hh, hs, g1⟩, g2, g4, g5⟩ := hrep'
        have hb : L.block ∈ L.fp := by simp [g4]
        have hsize : (a.eval y).cells.size = 1 := by rw [← hl, hcv]; rfl
        have hle : L.len * w' ≤ L.cap * w' := Nat.mul_le_mul_right _ l'
        have hrun := run_store (P := cx.P) (dst := dst) (ty := ty) (pos := pos) (aft := aft) (gd := gd) (w := w) hi (hav.trans (hvp L hL)) hs' hh (by omega) h1
        obtain ⟨u, hu⟩ : ∃ u, (a.eval y).cells.toList = [u] := List.length_eq_one_iff.1 (by simpa using hsize)
        have hru := (hcs 0 cv u (by simp [hcv]) (by rw [← Array.getElem?_toList, hu]; rfl)).1
        rw [hu] at hrun
        simp only [List.cons_ne_nil, if_false, putA] at hrun
        refine .inr (.inl ⟨_, hrun, ?_⟩)
        exact Post.write H.I hL hb _ e _ (per_set hrep hh hoff (pcOf_rep hL hru hq) (H.I.out id r L hL L.block hb).1) undef
      · simp at hst
  cases rp with
  | ptr id r off _ ho hu hvp =>
    simp only at h
    split at h
    · -- a box
      rename_i cells hat
      obtain ⟨hle, h⟩ := ite_some.1 h
      have h := Option.some.inj h
      subst h
      obtain ⟨L, hL, f, l, l', c, e, hh, hs, hx⟩ := H.I.objs id r _ (at_iff.1 hat)
      have hrun := run_store (P := cx.P) (dst := dst) (ty := ty) (pos := pos) (aft := aft) (gd := gd) (w := w) hi (hav.trans (hvp L hL)) hs' hh (by omega) h1
      have hn : (a.eval y).cells.toList ≠ [] := by intro e0; have : (a.eval y).cells.size = 0 := by simpa using congrArg List.length e0
                                                   omega
      · rw [if_neg hn] at hrun
        refine .inr (.inl ⟨_, hrun, ?_⟩)
        have E : Ext F w.heap β U F (wr w L.block (putA c (L.base + off) (a.eval y).cells.toList) e).heap β U := Ext.wr (H.I.out id r L hL L.block (by simp [f])).1
        have C : CRel F w.heap β U cells c L.base := ⟨by omega, hx⟩
        have C' := CRel.put (cellsOf v) (a.eval y).cells.toList cells c off C (by simpa using hl) (fun k y u hy hu => (hcs k y u hy (by simpa using hu)).1)
        refine Post.write H.I hL (by simp [f]) _ e _ ?_ undef
        refine ⟨f, by simp [length_setFrom, l], l', _, e, wr_heap hh, by simp [size_putA]; omega, fun k z hz => ?_⟩
        obtain ⟨u, hu, hr⟩ := C'.2 k z hz
        exact ⟨u, hu, hr.ext E⟩
    · -- a row
      rename_i cells hat
      obtain ⟨hle, h⟩ := ite_some.1 h
      split at h
      · rename_i d hcv
        obtain ⟨hpl, h⟩ := ite_some.1 h
        have h := Option.some.inj h
        subst h
        obtain ⟨L, hL, f, l, hB⟩ := H.I.objs id r _ (at_iff.1 hat)
        obtain ⟨c, e, hh, hs, hlc, hx⟩ := hB
        have hsize : (a.eval y).cells.size = 1 := by rw [← hl, hcv]; rfl
        have hrun := run_store (P := cx.P) (dst := dst) (ty := ty) (pos := pos) (aft := aft) (gd := gd) (w := w) hi (hav.trans (hvp L hL)) hs' hh (by omega) h1
        obtain ⟨u, hu⟩ : ∃ u, (a.eval y).cells.toList = [u] := List.length_eq_one_iff.1 (by simpa using hsize)
        have hru := (hcs 0 (.d d) u (by simp [hcv]) (by rw [← Array.getElem?_toList, hu]; rfl)).1
        have hdu : DRep F w.heap d u := by cases hru with | d _ _ hd => exact hd
        rw [hu] at hrun
        simp only [List.cons_ne_nil, if_false, putA] at hrun
        refine .inr (.inl ⟨_, hrun, ?_⟩)
        refine Post.write H.I hL (by simp [f]) _ e _ ?_ undef
        exact ⟨f, by simpa using l, RowB.set hh ⟨c, e, hh, hs, hlc, hx⟩ hpl hdu (H.I.out id r L hL L.block (by simp [f])).1⟩
      · simp at h
    · -- a table of rows
      rename_i op rows hat
      cases op with
      | false =>
        simp only [Bool.false_eq_true, if_false] at h
        obtain ⟨hlt, h2⟩ := ite_some.1 h
        replace h := h2
        clear h2
        obtain ⟨L, hL, hrep⟩ := H.I.objs id r _ (at_iff.1 hat)
        exact poolC hp rfl hL (per_of_mat hrep) (by simpa [idxR] using hlt) h
      | true =>
      simp only [if_true] at h
      obtain ⟨hlt, h2⟩ := ite_some.1 h
      replace h := h2
      clear h2
      obtain ⟨⟨cs, used⟩, hro, h⟩ := bnd_eq_some.1 h
      have h := Option.some.inj h
      subst h
      obtain ⟨L, hL, l, l', c, e, inner, hh, hs, hi', g1, g2, g3, g4, g5⟩ := H.I.objs id r _ (at_iff.1 hat)
      have hb : L.block ∈ L.fp := by simp [g4]
      have hspec := rowsOf_spec H hro rv
      have hcells : (a.eval y).cells = #[a.eval y] := by
        rcases hspec with ⟨_, _, e0⟩ | ⟨_, _, _, _, _, _, _, _, _, _, e0⟩ <;> rw [e0] <;> rfl
      have hrun := run_store (P := cx.P) (dst := dst) (ty := ty) (pos := pos) (aft := aft) (gd := gd) (w := w) hi (hav.trans (hvp L hL)) hs' hh (by rw [hcells]; simp; omega) h1
      rw [hcells] at hrun
      simp only [List.cons_ne_nil, if_false, putA] at hrun
      refine .inr (.inl ⟨_, hrun, ?_⟩)
      have hFb : ¬ F L.block := (H.I.out id r L hL L.block hb).1
      have hblk : blockOf (a.eval y) = used.flatMap (fun k => match β k with | some (_, L') => [L'.block] | none => []) := by
        rcases hspec with ⟨_, rfl, e0⟩ | ⟨k, va, La, _, rfl, _, hLa, _, _, _, e0⟩
        · rw [e0]; rfl
        · rw [e0]; simp [blockOf, hLa]
      have hused : ∀ k ∈ used, ∃ va La, β k = some (va, La) ∧ La.fp = [La.block] ∧ k ≠ id ∧ blockOf (a.eval y) = [La.block] ∧ used = [k] := by
        intro k hk
        rcases hspec with ⟨_, rfl, e0⟩ | ⟨k', va, La, _, rfl, hO, hLa, f, _, _, e0⟩
        · simp at hk
        · simp only [List.mem_singleton] at hk
          subst hk
          refine ⟨va, La, hLa, f, fun e1 => ?_, by rw [e0]; rfl, rfl⟩
          subst e1
          rw [at_iff.1 hat] at hO; simp at hO
      have hnd : (blockOf (a.eval y)).Nodup := by
        rcases hspec with ⟨_, _, e0⟩ | ⟨_, _, _, _, _, _, _, _, _, _, e0⟩ <;> rw [e0] <;> simp [blockOf]
      have hfresh : ∀ b ∈ blockOf (a.eval y), b ∉ L.fp := by
        intro b hb1 hb2
        rcases hspec with ⟨_, _, e0⟩ | ⟨k, va, La, _, rfl, hO, hLa, f, _, _, e0⟩
        · rw [e0] at hb1; simp [blockOf] at hb1
        · obtain ⟨_, _, hk2, hf2, hne, hblk2, _⟩ := hused k (by simp)
          rw [hblk2] at hb1
          exact H.I.disj k _ _ id r L hk2 hL hne b (by rw [hf2]; exact hb1) hb2
      rw [g4] at g5 hfresh
      simp only [List.nodup_cons] at g5
      obtain ⟨hn1, hn2⟩ := flatMap_set_nodup inner off g5.2 hnd (fun b hb1 hb2 => hfresh b hb1 (List.mem_cons_of_mem _ hb2))
      let L' : Loc := { L with fp := L.block :: (inner.set off (a.eval y)).flatMap blockOf }
      have E : Ext F w.heap β U F (wr w L.block (c.setIfInBounds (L.base + off) (a.eval y)) e).heap (fun j => if j = id then some (r, L') else if j ∈ used then none else β j) U := by
        refine ⟨fun _ h => h, fun x hx => wr_other (fun e1 => hFb (e1 ▸ hx)), fun _ h => h, fun j v0 L0 _ hj => ?_, fun _ h => h, fun _ h => .inl h⟩
        by_cases hj1 : j = id
        · subst hj1
          simp only [if_true, Option.some.injEq, Prod.mk.injEq] at hj
          obtain ⟨rfl, rfl⟩ := hj
          exact ⟨L, hL, rfl, rfl, rfl, rfl, rfl⟩
        · by_cases hj2 : j ∈ used
          · simp [hj1, hj2] at hj
          · simp only [hj1, hj2, if_false] at hj
            exact ⟨L0, hj, rfl, rfl, rfl, rfl, rfl⟩
      refine ⟨F, _, U, H.I.upd id r L' _ used (fun j => updO_put j) (fun _ => rfl) E (H.I.used id r L hL) ?_ ?_ ?_ (Nat.le_of_eq size_wr.symm), .undef _, E, fun _ h => .inl h, Stp.wr H.I hL hb _ e⟩
      · refine ⟨by simpa using l, l', _, e, inner.set off (a.eval y), wr_heap hh, by simpa using hs, by simpa using hi', fun k z hz => ?_, fun k row z hrow hz => ?_, by simpa [L'] using g3, rfl, ?_⟩
        · rw [List.getElem?_set] at hz
          by_cases hk : off = k
          · subst hk
            simp only [if_true] at hz
            split at hz
            · simp only [Option.some.injEq] at hz; subst hz
              rw [Array.getElem?_setIfInBounds]; simp [L']; omega
            · simp at hz
          · simp only [hk, if_false] at hz
            rw [Array.getElem?_setIfInBounds_ne (by simp [L']; omega)]; exact g1 k z hz
        · have hback : ∀ {row : List D} {z : Value}, RowV F w.heap row z → (∀ b ∈ blockOf z, b ≠ L.block) → RowV F (wr w L.block (c.setIfInBounds (L.base + off) (a.eval y)) e).heap row z := by
            intro row z hr hne
            rcases hr with h | ⟨b, o, cap, hz, hB⟩
            · exact .inl h
            · exact .inr ⟨b, o, cap, hz, hB.ext (fun _ h => h) (fun _ h => h) (wr_frz hFb) (wr_other (hne b (by simp [hz, blockOf])))⟩
          rw [List.getElem?_set] at hz hrow
          by_cases hk : off = k
          · subst hk
            simp only [if_true] at hz hrow
            split at hz
            · split at hrow
              · simp only [Option.some.injEq] at hz hrow; subst hz; subst hrow
                refine hback ?_ (fun b hb1 e1 => hfresh b hb1 (by simp [e1]))
                rcases hspec with ⟨rfl, _, e0⟩ | ⟨_, va, La, _, _, _, hLa, f, _, hB, e0⟩
                · exact .inl ⟨rfl, e0⟩
                · exact .inr ⟨La.block, La.base, La.cap, e0, hB⟩
              · exfalso; omega
            · simp at hz
          · simp only [hk, if_false] at hz hrow
            refine hback (g2 k row z hrow hz) (fun b hb1 e1 => g5.1 ?_)
            subst e1
            exact List.mem_flatMap.2 ⟨z, List.mem_of_getElem? hz, hb1⟩
        · simp only [L', List.nodup_cons]
          refine ⟨fun hm => ?_, hn1⟩
          rcases hn2 _ hm with hm | hm
          · exact hfresh _ hm (by simp)
          · exact g5.1 hm
      · intro b hb1
        simp only [L', List.mem_cons] at hb1
        rcases hb1 with rfl | hb1
        · exact .inr ⟨id, r, L, .inl rfl, hL, hb⟩
        · rcases hn2 b hb1 with hb2 | hb2
          · rcases hspec with ⟨_, _, e0⟩ | ⟨k, va, La, _, rfl, hO, hLa, f, _, _, e0⟩
            · rw [e0] at hb2; simp [blockOf] at hb2
            · rw [e0] at hb2
              exact .inr ⟨k, va, La, .inr (by simp), hLa, by rw [f]; simpa [blockOf] using hb2⟩
          · exact .inr ⟨id, r, L, .inl rfl, hL, by rw [g4]; exact List.mem_cons_of_mem _ hb2⟩
      · intro j v0 L0 hj hne _ x hx
        exact wr_other (fun e1 => by subst e1; exact H.I.disj j v0 L0 id r L hj hL hne _ hx hb)
    · -- a slice over a pool
      rename_i w' rows cells hat
      obtain ⟨hlt, h2⟩ := ite_some.1 h
      replace h := h2
      clear h2
      obtain ⟨L, hL, hrep⟩ := H.I.objs id r _ (at_iff.1 hat)
      exact poolC hp rfl hL hrep hlt h
    · simp at h
  | innp id r i' j _ ho hu hvp =>
    simp only at h
    split at h
    · rename_i op rows hat
      obtain ⟨row, hrow, h⟩ := bnd_eq_some.1 h
      obtain ⟨hj, h⟩ := ite_some.1 h
      split at h
      · rename_i d hcv
        obtain ⟨hpl, h⟩ := ite_some.1 h
        have h := Option.some.inj h
        subst h
        obtain ⟨L, hL, l, l', c, e, inner, hh, hs, hi', g1, g2, g3, g4, g5⟩ := H.I.objs id r _ (at_iff.1 hat)
        obtain ⟨b, o, n, cp, hin, hval⟩ := hvp L hL
        cases op with
        | true => rw [g3] at hin; simp at hin
        | false =>
          rw [g3] at hin
          simp only [Bool.false_eq_true, if_false] at hin
          rcases g2 i' row _ hrow hin with ⟨rfl, e0⟩ | ⟨b', o', cap', e0, hB⟩
          · simp at hj
          · simp only [Value.slice.injEq, Option.some.injEq, Addr.mk.injEq] at e0
            obtain ⟨⟨rfl, rfl, _⟩, rfl, rfl⟩ := e0
            have hB' := hB
            obtain ⟨c', e', hh', hs', hlc', hx'⟩ := hB
            have hbfp : b ∈ L.fp := by
              rw [g4]
              exact List.mem_cons_of_mem _ (List.mem_flatMap.2 ⟨_, List.mem_of_getElem? hin, by simp [blockOf]⟩)
            have hsize : (a.eval y).cells.size = 1 := by rw [← hl, hcv]; rfl
            have hrun := run_store (P := cx.P) (dst := dst) (ty := ty) (pos := pos) (aft := aft) (gd := gd) (w := w) hi (hav.trans hval) (by omega) hh' (by omega) h1
            obtain ⟨u, hu⟩ : ∃ u, (a.eval y).cells.toList = [u] := List.length_eq_one_iff.1 (by simpa using hsize)
            have hru := (hcs 0 (.d d) u (by simp [hcv]) (by rw [← Array.getElem?_toList, hu]; rfl)).1
            have hdu : DRep F w.heap d u := by cases hru with | d _ _ hd => exact hd
            have hFb : ¬ F b := (H.I.out id r L hL b hbfp).1
            rw [hu] at hrun
            simp only [List.cons_ne_nil, if_false, putA] at hrun
            refine .inr (.inl ⟨_, hrun, ?_⟩)
            rw [g4] at g5
            simp only [List.nodup_cons] at g5
            have hbne : L.block ≠ b := fun e1 => g5.1 (List.mem_flatMap.2 ⟨_, List.mem_of_getElem? hin, by simp [blockOf, e1]⟩)
            refine Post.write H.I hL hbfp _ e' _ ?_ undef
            refine ⟨by simpa using l, l', c, e, inner, (wr_other hbne).trans hh, hs, by simpa using hi', g1, fun k row' z hrow' hz => ?_, g3, g4, by rw [g4, List.nodup_cons]; exact g5⟩
            rw [List.getElem?_set] at hrow'
            by_cases hk : i' = k
            · subst hk
              simp only [if_true] at hrow'
              split at hrow'
              · simp only [Option.some.injEq] at hrow'; subst hrow'
                rw [hin] at hz
                simp only [Option.some.injEq] at hz; subst hz
                refine .inr ⟨b, o, cp, by simp, ?_⟩
                exact RowB.set hh' hB' hpl hdu hFb
              · simp at hrow'
            · simp only [hk, if_false] at hrow'
              rcases g2 k row' z hrow' hz with h | ⟨b2, o2, cap2, hz2, hB2⟩
              · exact .inl h
              · refine .inr ⟨b2, o2, cap2, hz2, hB2.ext (fun _ h => h) (fun _ h => h) (wr_frz hFb) (wr_other fun e1 => ?_)⟩
                subst e1
                -- two inner rows in one block
                have := nodup_two g5.2 hk hin hz (b := b2) (by simp [blockOf]) (by simp [hz2, blockOf])
                exact this
      · simp at h
    · rename_i w' rows cells hat
      obtain ⟨row, hrow, h⟩ := bnd_eq_some.1 h
      obtain ⟨hj, h⟩ := ite_some.1 h
      split at h
      · rename_i d hcv
        obtain ⟨hpl, h⟩ := ite_some.1 h
        have h := Option.some.inj h
        subst h
        obtain ⟨L, hL, hrep⟩ := H.I.objs id r _ (at_iff.1 hat)
        have hrep' := hrep
        obtain ⟨l0, l, l', hi2, _, g2, g4, g5⟩ := hrep'
        obtain ⟨b, o, n, cp, hin, hval⟩ := hvp L hL
        rcases g2 i' row _ hrow hin with ⟨rfl, e0⟩ | ⟨b', o', cap', e0, hB⟩
        · simp at hj
        · simp only [Value.slice.injEq, Option.some.injEq, Addr.mk.injEq] at e0
          obtain ⟨⟨rfl, rfl, _⟩, rfl, rfl⟩ := e0
          have hB' := hB
          obtain ⟨c', e', hh', hs', hlc', hx'⟩ := hB
          have hbfp : b ∈ L.fp := by
            rw [g4]
            exact List.mem_cons_of_mem _ (List.mem_flatMap.2 ⟨_, List.mem_of_getElem? hin, by simp [blockOf]⟩)
          have hsize : (a.eval y).cells.size = 1 := by rw [← hl, hcv]; rfl
          have hrun := run_store (P := cx.P) (dst := dst) (ty := ty) (pos := pos) (aft := aft) (gd := gd) (w := w) hi (hav.trans hval) (by omega) hh' (by omega) h1
          obtain ⟨u, hu⟩ : ∃ u, (a.eval y).cells.toList = [u] := List.length_eq_one_iff.1 (by simpa using hsize)
          have hru := (hcs 0 (.d d) u (by simp [hcv]) (by rw [← Array.getElem?_toList, hu]; rfl)).1
          have hdu : DRep F w.heap d u := by cases hru with | d _ _ hd => exact hd
          rw [hu] at hrun
          simp only [List.cons_ne_nil, if_false, putA] at hrun
          refine .inr (.inl ⟨_, hrun, ?_⟩)
          exact Post.write H.I hL hbfp _ e' _ (per_row hrep hrow hin hB' hh' hpl hdu (H.I.out id r L hL b hbfp).1) undef
      · simp at h
    · simp at h
  | _ => simp at h

omit hP in
theorem op_box {e : TypeId} {x : Operand} (h : evalOp cx look O ver ⟨dst, .box e x, ty, pos, aft, gd⟩ = some out) : Does P ⟨dst, .box e x, ty, pos, aft, gd⟩ a w (Post n0 M F β U O w ver out) := by
  simp only [evalOp] at h
  obtain ⟨z, hz, h1⟩ := bnd_eq_some.1 h
  obtain ⟨t, ht, h2⟩ := bnd_eq_some.1 h1
  clear h h1
  have rz := opnd_rep H hz
  have run : (execOp a.eval ⟨dst, .box e x, ty, pos, aft, gd⟩).run P w = .ok (.value (.pointer (some ⟨w.heap.size, 0, none⟩))) { w with heap := w.heap.push (.cells (a.eval x).cells e) } := by
    simp [execOp, Instr.box, newVar, newRow]
  by_cases hown : t ∈ cx.ann.own
  · rw [if_pos hown] at h2
    split at h2
    · rename_i m rid rv
      split at h2
      · rename_i cells hat
        obtain ⟨hm, h3⟩ := ite_some.1 h2
        have h3 := Option.some.inj h3
        subst h3
        generalize heb : a.eval x = xv at rz run
        cases rz with
        | agg _ vs hl hr =>
          have hl2 : vs.size = 2 := by simpa using hl.symm
          have r0 := hr 0 _ vs[0] rfl (by simp)
          have r1 := hr 1 _ vs[1] rfl (by simp)
          obtain ⟨Lr, hLr, f, l, hB⟩ := H.I.objs rid rv _ (at_iff.1 hat)
          have hval : vs[1] = .slice (some ⟨Lr.block, Lr.base, none⟩) Lr.len Lr.cap := by cases r1 with | own _ _ _ ho hu hv => exact hv Lr hLr
          have hd0 : DRep F w.heap m vs[0] := by cases r0 with | d _ _ hd => exact hd
          have hblt := (H.I.out rid rv Lr hLr Lr.block (by simp [f])).2.1
          have hpush : ∀ b, F b → (w.heap.push (.cells (Value.agg vs).cells e))[b]? = w.heap[b]? := fun b hb => getElem?_push_lt (H.I.lt b hb)
          let L : Loc := ⟨w.heap.size, 0, 1, 1, [vs[1]], [w.heap.size, Lr.block]⟩
          have E := Ext.put (F := F) (h := w.heap) (β := β) (U := U) (ver := ver) (id := t * 16) (L := L) (rem := [rid]) H.ver hpush
          refine .inl ⟨_, _, run, F, _, _, H.I.upd (t * 16) ver L _ [rid] (fun j => updO_put (rem := [rid]) j) (fun _ => rfl) E (.inr rfl) ?_ ?_ ?_ (by simp), ?_, E, fun v h => h, ?_⟩
          · refine ⟨by omega, by simp [L], Nat.le_refl _, rfl, ⟨vs, e, by simp [L, Value.cells], by simp [L, hl2], fun i p hp => ?_⟩, fun k r z hrk hz => ?_, by simp [L, hval, blockOf], by simp [L]; omega⟩
            · match i, hp with
              | 0, hp =>
                simp only [List.getElem?_cons_zero, Option.some.injEq] at hp; subst hp
                refine ⟨vs[0], by simp [L], hd0.ext (fun _ h => h) (fun _ h => h) hpush, rowD_one hd0 (plain_row hm)⟩
              | 1, hp =>
                simp only [List.getElem?_cons_succ, List.getElem?_cons_zero, Option.some.injEq] at hp; subst hp
                exact ⟨vs[1], by simp [L], by simp [PRep, L]⟩
              | n + 2, hp => simp at hp
            · match k, hrk with
              | 0, hrk =>
                simp only [List.getElem?_cons_zero, Option.some.injEq] at hrk; subst hrk
                simp only [L, List.getElem?_cons_zero, Option.some.injEq] at hz; subst hz
                exact .inr ⟨Lr.block, Lr.base, Lr.cap, by rw [hval, l], hB.ext (fun _ h => h) (fun _ h => h) hpush (getElem?_push_lt hblt)⟩
              | n + 1, hrk => simp at hrk
          · intro b hb
            simp only [L, List.mem_cons, List.not_mem_nil, or_false] at hb
            rcases hb with rfl | rfl
            · exact .inl ⟨by omega, by simp⟩
            · exact .inr ⟨rid, rv, Lr, .inr (by simp), hLr, by simp [f]⟩
          · intro j v' L' hj _ _ b hb
            exact getElem?_push_lt (H.I.out j v' L' hj b hb).2.1
          · refine .ptr _ _ _ _ rfl (.inr rfl) fun L' hL' => ?_
            simp only [if_true, Option.some.injEq, Prod.mk.injEq, true_and] at hL'
            subst hL'; rfl
          · exact ⟨rfl, rfl, rfl, by simp, fun b hb _ => getElem?_push_lt (Nat.lt_of_lt_of_le hb H.I.le)⟩
      · simp at h2
    · simp at h2
  · rw [if_neg hown] at h2
    obtain ⟨hs, h3⟩ := ite_some.1 h2
    have h3 := Option.some.inj h3
    subst h3
    exact .inl ⟨_, _, run, box_post H e t rz hs⟩
end
end Go.Proofs.YtnfhglplafmfiaaGreatE

namespace Go.Proofs.YtnfhglplafmfiaaGreatE
set_option linter.unusedSectionVars false
set_option linter.unusedSimpArgs false
set_option linter.unusedVariables false
open Go
set_option linter.unusedSectionVars false

section
variable {P : Program} {n0 : Nat} {M : Nat → Prop} {F : Frz} {β : Beta} {U : Nat → Prop} {O : Nat → Option (Nat × Ob)} {look : Nat → Option AV} {a : Act} {w : World} {ver : Nat} {h : Heap}
variable {cx : Cx} (hP : cx.P = P) (H : Hyp n0 M F β U O look a w ver) {out : Out} {dst : Option Tmp} {ty : TypeId} {pos : String} {aft : Array Edge} {gd : Option (Nat × Bool)}

theorem drep_bool {b : Bool} {v : Value} (r : DRep F h (.bool b) v) : v = .bool b := by cases r; rfl

theorem run_eqGuard_int {op : BinOp} {t : TypeId} {x y : Operand} {k k' : IntKind} {p q : Int} : (eqGuard op t x y (.int k p) (.int k' q)).run P w = .ok () w := by
  cases op <;> rfl

theorem arith_run {op : BinOp} {t : TypeId} {x y : Operand} {k : IntKind} {p q : Int} {c : D} (hc : arith op k p q = some c) :
    ∃ v, (eqGuard op t x y (.int k p) (.int k q) >>= fun _ => binOp op t (.int k p) (.int k q)).run P w = .ok v w ∧ DRep F h c v := by
  cases op <;> simp only [arith, ite_some, reduceCtorEq] at hc
  case quo =>
    split at hc
    · simp at hc
    · rename_i h0
      have hc := Option.some.inj hc
      subst hc; exact ⟨_, by simp [eqGuard, binOp, Op.intDiv, h0], .int _ _⟩
  case rem =>
    split at hc
    · simp at hc
    · rename_i h0
      have hc := Option.some.inj hc
      subst hc; exact ⟨_, by simp [eqGuard, binOp, Op.intDiv, h0], .int _ _⟩
  all_goals
    have hc := Option.some.inj hc
    subst hc
    first
      | (refine ⟨_, ?_, .int _ _⟩; simp only [Sem.run_bind, run_eqGuard_int, Result.andThen_ok, binOp, ne_eq, not_true, if_false]; rfl)
      | (refine ⟨_, ?_, .bool _⟩; simp only [Sem.run_bind, run_eqGuard_int, Result.andThen_ok, binOp, ne_eq, not_true, if_false]; rfl)

theorem binD_run {op : BinOp} {t : TypeId} {x y : Operand} {p q c : D} {vp vq : Value} (rp : DRep F h p vp) (rq : DRep F h q vq) (hc : binD op p q = some c) :
    ∃ v, (eqGuard op t x y vp vq >>= fun _ => binOp op t vp vq).run P w = .ok v w ∧ DRep F h c v := by
  cases rp with
  | int k n =>
    cases rq with
    | int k' m =>
      by_cases h1 : op = .shl
      · subst h1
        simp only [binD] at hc
        split at hc
        · simp at hc
        · rename_i h0
          have hc := Option.some.inj hc
          subst hc; exact ⟨_, by simp [eqGuard, binOp, Op.shift, h0], .int _ _⟩
      · by_cases h2 : op = .shr
        · subst h2
          simp only [binD] at hc
          split at hc
          · simp at hc
          · rename_i h0
            have hc := Option.some.inj hc
            subst hc; exact ⟨_, by simp [eqGuard, binOp, Op.shift, h0], .int _ _⟩
        · have : binD op (.int k n) (.int k' m) = if k = k' then arith op k n m else none := by
            cases op <;> first | rfl | exact absurd rfl h1 | exact absurd rfl h2
          rw [this] at hc
          obtain ⟨hk, hc2⟩ := ite_some.1 hc
          subst hk
          exact arith_run hc2
    | _ => cases op <;> simp [binD] at hc
  | str s =>
    cases rq with
    | str s' =>
      cases op <;> simp [binD] at hc
      · subst hc; exact ⟨_, rfl, .bool _⟩
      · subst hc; exact ⟨_, rfl, .bool _⟩
    | _ => cases op <;> simp [binD] at hc
  | _ => cases rq <;> cases op <;> simp [binD] at hc

theorem nilD_rep {x : D} {v : Value} {b : Bool} (r : DRep F h x v) (hb : nilD x = some b) : ∃ A l c, v = .slice A l c ∧ A.isNone = b := by
  cases r with
  | nil => simp only [nilD, Option.some.injEq] at hb; subst hb; exact ⟨none, 0, 0, rfl, rfl⟩
  | sl n cells A len cap vs hl hc hv hm hr =>
    simp only [nilD] at hb
    obtain ⟨⟨_, h0⟩, hb⟩ := ite_some.1 hb
    have hb := Option.some.inj hb
    subst hb
    obtain ⟨b, off, hA, _⟩ := hm 0 vs[0] (by simp [← hv, h0])
    exact ⟨A, len, cap, rfl, by rw [hA]; rfl⟩
  | pin cells A len cap vs hl hc hv hm hr =>
    simp only [nilD] at hb
    obtain ⟨h0, hb⟩ := ite_some.1 hb
    have hb := Option.some.inj hb
    subst hb
    obtain ⟨b, off, hA, _⟩ := hm 0 vs[0] (by simp [← hv, h0])
    exact ⟨A, len, cap, rfl, by rw [hA]; rfl⟩
  | _ => simp [nilD] at hb

include hP H

theorem op_binOp {op : BinOp} {t t2 : TypeId} {x y : Operand} (h : evalOp cx look O ver ⟨dst, .binOp op t x y t2, ty, pos, aft, gd⟩ = some out) :
    Does P ⟨dst, .binOp op t x y t2, ty, pos, aft, gd⟩ a w (Post n0 M F β U O w ver out) := by
  subst hP
  simp only [evalOp] at h
  obtain ⟨p, hp, h1⟩ := bnd_eq_some.1 h
  obtain ⟨q, hq, h2⟩ := bnd_eq_some.1 h1
  clear h h1
  have h := h2
  clear h2
  obtain ⟨xv, hx, hp⟩ := bnd_eq_some.1 hp
  obtain ⟨yv, hy, hq⟩ := bnd_eq_some.1 hq
  have rp := asD_rep (opnd_rep H hx) hp
  have rq := asD_rep (opnd_rep H hy) hq
  have key : ∀ {c : D} {v : Value}, (eqGuard op t x y (a.eval x) (a.eval y) >>= fun _ => binOp op t (a.eval x) (a.eval y)).run cx.P w = .ok v w → DRep F w.heap c v →
      Does cx.P ⟨dst, .binOp op t x y t2, ty, pos, aft, gd⟩ a w (Post n0 M F β U O w ver { val := .d c }) := by
    intro c v hr hd
    refine .inl ⟨v, w, ?_, Post.pure H.I (.d _ _ hd)⟩
    simp only [execOp]
    rw [Sem.run_bind, hr]; rfl
  split at h
  · have h := Option.some.inj h
    subst h
    refine key ?_ (.bool _)
    rw [drep_bool rp, drep_bool rq]
    simp [eqGuard, run_eql_bool w t _ _ (tk_bool (by assumption))]
  · have h := Option.some.inj h
    subst h
    refine key ?_ (.bool _)
    rw [drep_bool rp, drep_bool rq]
    simp [eqGuard, run_neq_bool w t _ _ (tk_bool (by assumption))]
  · obtain ⟨b, hb, h⟩ := bnd_eq_some.1 h
    have h := Option.some.inj h
    subst h
    refine key ?_ (.bool _)
    obtain ⟨A, l, c, e1, e2⟩ := nilD_rep rp hb
    have e3 : a.eval y = .slice none 0 0 := by
      generalize a.eval y = vy at rq
      cases rq; rfl
    rw [e1, e3, ← e2]
    simp [eqGuard, binOp, run_equal_slice_nil w t _ A l c (tk_slice (by assumption))]
  · obtain ⟨b, hb, h⟩ := bnd_eq_some.1 h
    have h := Option.some.inj h
    subst h
    refine key ?_ (.bool _)
    obtain ⟨A, l, c, e1, e2⟩ := nilD_rep rp hb
    have e3 : a.eval y = .slice none 0 0 := by
      generalize a.eval y = vy at rq
      cases rq; rfl
    rw [e1, e3, ← e2]
    simp [eqGuard, run_neq_slice_nil w t _ A l c (tk_slice (by assumption))]
  · obtain ⟨c, hc, h⟩ := bnd_eq_some.1 h
    have h := Option.some.inj h
    subst h
    obtain ⟨v, hr, hd⟩ := binD_run (P := cx.P) (w := w) (t := t) (x := x) (y := y) rp rq hc
    exact key hr hd

omit hP in
theorem op_unOp {op : UnOp} {t : TypeId} {x : Operand} (h : evalOp cx look O ver ⟨dst, .unOp op t x, ty, pos, aft, gd⟩ = some out) :
    Does P ⟨dst, .unOp op t x, ty, pos, aft, gd⟩ a w (Post n0 M F β U O w ver out) := by
  simp only [evalOp] at h
  obtain ⟨p, hp, h⟩ := bnd_eq_some.1 h
  obtain ⟨xv, hx, hp⟩ := bnd_eq_some.1 hp
  obtain ⟨c, hc, h⟩ := bnd_eq_some.1 h
  have h := Option.some.inj h
  subst h
  have rp := asD_rep (opnd_rep H hx) hp
  generalize he : a.eval x = v at rp
  cases rp <;> cases op <;> simp [unD] at hc
  · subst hc; exact .inl ⟨_, w, by simp [execOp, he, Op.unary, Op.intArith], Post.pure H.I (.d _ _ (.int _ _))⟩
  · subst hc; exact .inl ⟨_, w, by simp [execOp, he, Op.unary], Post.pure H.I (.d _ _ (.bool _))⟩

theorem op_convert {s t : TypeId} {x : Operand} (h : evalOp cx look O ver ⟨dst, .convert s t x, ty, pos, aft, gd⟩ = some out) :
    Does P ⟨dst, .convert s t x, ty, pos, aft, gd⟩ a w (Post n0 M F β U O w ver out) := by
  subst hP
  simp only [evalOp] at h
  obtain ⟨n, hn, h⟩ := bnd_eq_some.1 h
  obtain ⟨xv, hx, hn⟩ := bnd_eq_some.1 hn
  obtain ⟨k0, he⟩ := asInt_rep (opnd_rep H hx) hn
  split at h
  · rename_i k1 k htk1 htk2
    have h := Option.some.inj h
    subst h
    refine .inl ⟨.int k (k.wrap n), w, ?_, Post.pure H.I (.d _ _ (.int _ _))⟩
    simp [execOp, convert, run_und (tk_int htk1), run_und (tk_int htk2), he, Conv.intToInt]
  · simp at h

theorem op_field {s : TypeId} {x : Operand} {f : Nat} (h : evalOp cx look O ver ⟨dst, .field s x f, ty, pos, aft, gd⟩ = some out) :
    Does P ⟨dst, .field s x f, ty, pos, aft, gd⟩ a w (Post n0 M F β U O w ver out) := by
  subst hP
  simp only [evalOp] at h
  split at h
  · rename_i fs htk
    obtain ⟨⟨off, fty⟩, hf, h2⟩ := bnd_eq_some.1 h
    clear h
    obtain ⟨fs', hund, rfl⟩ := tk_struct htk
    simp only [List.getElem?_map, Option.map_eq_some_iff, Prod.mk.injEq] at hf
    obtain ⟨fd, hfd, rfl, rfl⟩ := hf
    have hfd' : fs'[f]? = some fd := by simpa using hfd
    have one : ∀ {d : TypeDesc}, cx.P.underlying fd.type = some d → (∀ fs, d ≠ .struct fs) → (∀ n e, d ≠ .array n e) →
        (bnd (opnd look x) fun v => match v with | .agg cells => bnd cells[fd.offset]? fun c => some { val := c } | _ => none) = some out → Does cx.P ⟨dst, .field s x f, ty, pos, aft, gd⟩ a w (Post n0 M F β U O w ver out) := by
      intro d hd hns hna h
      obtain ⟨v, hv, h⟩ := bnd_eq_some.1 h
      split at h
      · rename_i cells
        obtain ⟨c, hc, h⟩ := bnd_eq_some.1 h
        have h := Option.some.inj h
        subst h
        have r := opnd_rep H hv
        generalize he : a.eval x = av at r
        cases r with
        | agg _ us hl hr =>
          have hi : fd.offset < us.size := by rw [← hl]; exact (List.getElem?_eq_some_iff.1 hc).1
          have hagg : (isAgg fd.type).run cx.P w = .ok false w := by
            simp only [isAgg, Sem.run_bind, run_und hd, Result.andThen]
            cases d <;> first | rfl | exact absurd rfl (hns _) | exact absurd rfl (hna _ _)
          exact .inl ⟨us[fd.offset], w, by simp [execOp, Instr.field, run_und hund, hfd', he, asAgg, part, hagg, hi], Post.pure H.I (hr _ c _ hc (by simp [hi]))⟩
      · simp at h
    simp only at h2
    cases hk : tk cx.P fd.type with
    | slice e => rw [hk] at h2; exact one (tk_slice hk) (by simp) (by simp) h2
    | int k => rw [hk] at h2; exact one (tk_int hk) (by simp) (by simp) h2
    | bool => rw [hk] at h2; exact one (tk_bool hk) (by simp) (by simp) h2
    | string => rw [hk] at h2; exact one (tk_string hk) (by simp) (by simp) h2
    | func => rw [hk] at h2; obtain ⟨_, _, _, hu⟩ := tk_func hk; exact one hu (by simp) (by simp) h2
    | struct fs => rw [hk] at h2; simp at h2
    | other => rw [hk] at h2; simp at h2
  · simp at h

theorem op_fieldAddr {s : TypeId} {x : Operand} {f : Nat} (h : evalOp cx look O ver ⟨dst, .fieldAddr s x f, ty, pos, aft, gd⟩ = some out) :
    Does P ⟨dst, .fieldAddr s x f, ty, pos, aft, gd⟩ a w (Post n0 M F β U O w ver out) := by
  subst hP
  simp only [evalOp] at h
  split at h
  · rename_i fs htk
    obtain ⟨⟨off, fty⟩, hf, h⟩ := bnd_eq_some.1 h
    obtain ⟨fs', hund, rfl⟩ := tk_struct htk
    simp only [List.getElem?_map, Option.map_eq_some_iff, Prod.mk.injEq] at hf
    obtain ⟨fd, hfd, rfl, rfl⟩ := hf
    have hfd' : fs'[f]? = some fd := by simpa using hfd
    simp only at h
    split at h
    · simp at h
    · rename_i hsz
      obtain ⟨p, hp, h⟩ := bnd_eq_some.1 h
      obtain ⟨i, hi⟩ : ∃ i, cx.P.info? fd.type = some i := by
        cases hi : cx.P.info? fd.type with
        | some i => exact ⟨i, rfl⟩
        | none => exact absurd (by simp [sz, hi]) hsz
      have rp := opnd_rep H hp
      have run : ∀ b o, a.eval x = .pointer (some ⟨b, o, none⟩) → (execOp a.eval ⟨dst, .fieldAddr s x f, ty, pos, aft, gd⟩).run cx.P w = .ok (.value (.pointer (some ⟨b, o + fd.offset, none⟩))) w := by
        intro b o he
        have ha : (⟨b, o, none⟩ : Addr).add fd.offset = ⟨b, o + fd.offset, none⟩ := by unfold Addr.add; by_cases h0 : fd.offset = 0 <;> simp [h0]
        simp [execOp, Instr.fieldAt, run_und hund, hfd', he, Instr.sureAddr, fieldPlace, run_sizeOf hi, hsz, ha]
      generalize he : a.eval x = v at rp
      split at h
      · rename_i id r o
        cases rp with
        | ptr _ _ _ _ ho hu hv =>
          obtain ⟨ob, hat, h⟩ := bnd_eq_some.1 h
          have h := Option.some.inj h
          subst h
          obtain ⟨L, hL, _⟩ := H.I.objs id r _ (at_iff.1 hat)
          refine .inl ⟨_, w, run _ _ (he.trans (hv L hL)), Post.pure H.I (.ptr _ _ _ _ rfl hu fun L' hL' => ?_)⟩
          rw [hL] at hL'
          simp only [Option.some.injEq, Prod.mk.injEq, true_and] at hL'
          subst hL'
          rw [Nat.add_assoc]
      · have h := Option.some.inj h
        subst h
        cases rp with
        | d _ _ hd =>
          cases hd with
          | cellp cells b o vs hv hm hr =>
            refine .inl ⟨_, w, run b o he, Post.pure H.I (.d _ _ (.cellp _ b _ (vs.drop fd.offset) (by simp [hv]) ?_ ?_))⟩
            · intro j u hu
              rw [List.getElem?_drop] at hu
              obtain ⟨b', o', hA, hF, hcell⟩ := hm _ u hu
              simp only [Option.some.injEq, Addr.mk.injEq] at hA
              obtain ⟨rfl, rfl, _⟩ := hA
              exact ⟨b, _, rfl, hF, by rw [Nat.add_assoc]; exact hcell⟩
            · intro j y u hy hu
              rw [List.getElem?_drop] at hy hu
              exact hr _ y u hy hu
      · simp at h
  · simp at h
end
end Go.Proofs.YtnfhglplafmfiaaGreatE
