/- Texts of this claim, put together (ASem, ARun, AComp, ARel, AOps, AOps2, AOps3, AOps4, AOps5, AMem, AMem2, AMem3, ACtl, ACtl2, ACtl3): lemmas towards the statement; no conditions of their own. -/
import Derived.WalkKit
import Derived.ChangeKeysEq
import Derived.Lib.ConvBytes
import Derived.Defers
import Derived.RangeFuncRecord
/- An abstract machine A: the values, the heap, the operations and the code of a small deterministic machine; what it computes is defined by 'run'. -/
set_option linter.unusedVariables false
set_option linter.unusedSimpArgs false
set_option linter.unusedSectionVars false
namespace Go.A

/-- A value. 'undef': nothing is known of it. -/
inductive V where
  | undef
  | int (k : IntKind) (n : Int)
  | bool (b : Bool)
  | str (s : List UInt8)
  | ptr (b o : Nat)
  | nilp
  | sl (e b o n c : Nat)   -- elements of e cells
  | nils
  | agg (cs : List V)
  | tup (vs : List V)
  | fn (f : Fn) (first caps : List V)
  | nilf
  | ifc (t : Nat) (v : V)
  | nili
  | map (b : Nat)
  | nilm
  deriving Inhabited

def V.cells : V → List V
  | .agg cs => cs
  | v => [v]

/-- Values that fill one cell. -/
def V.one : V → Bool
  | .undef | .agg _ | .tup _ => false
  | _ => true

/-- Values whose cells are known. -/
def V.ok : V → Bool
  | .undef | .tup _ => false
  | _ => true

/-- The function by which a loop over a function is gone on with. -/
def isY : Fn → Bool
  | .yield _ => true
  | _ => false

def yBel (n : Nat) : Fn → Bool
  | .yield l => l < n
  | _ => true

mutual
/-- Every block that a value names is below n. -/
def V.bel (n : Nat) : V → Bool
  | .undef => true
  | .ptr b _ => b < n
  | .sl _ b _ _ _ => b < n
  | .agg cs => belowL n cs
  | .tup cs => belowL n cs
  | .fn f a b => yBel n f && (belowL n a && belowL n b)
  | .ifc _ v => v.bel n
  | .map b => b < n
  | _ => true
def belowL (n : Nat) : List V → Bool
  | [] => true
  | v :: vs => v.bel n && belowL n vs
end

inductive Opd where
  | t (n : Nat)
  | c (v : V)
  | g (n : Nat)
  | f (n : Nat)
  deriving Inhabited

/-- How values of a type are compared. -/
inductive ETy where
  | int | bool | str
  | iface
  | pn | sn | fn | mn   -- pointers, slices, functions, maps: one of the two is nil
  | flat (ts : List ETy)   -- a struct or an array, cell by cell
  deriving Inhabited

/-- Operations that look at their operands alone. -/
inductive POp where
  | mv (x : Opd)
  | pick (c a b : Opd)
  | build (zs : List V) (parts : List (Nat × Nat × Opd))
  | nilck (x : Opd)
  | bin (op : BinOp) (x y : Opd)
  | eqv (neg : Bool) (t : ETy) (x y : Opd)
  | un (op : UnOp) (x : Opd)
  | conv (k : IntKind) (x : Opd)
  | retag (x : Opd)
  | mkif (t : Nat) (x : Opd)
  | mkfn (fn : Fn) (first caps : List Opd)
  | slStr (x : Opd) (lo hi : Option Opd)
  | slSl (esz : Nat) (x : Opd) (lo hi mx : Option Opd)
  | slArr (n esz : Nat) (x : Opd) (lo hi mx : Option Opd)
  | fieldA (off : Nat) (x : Opd)
  | field (off : Nat) (sz : Option Nat) (x : Opd)
  | idxA (n esz : Nat) (x i : Opd)
  | idxS (esz : Nat) (x i : Opd)
  | idx (n esz : Nat) (sz : Option Nat) (x i : Opd)
  | idxStr (x i : Opd)
  | ext (x : Opd) (i : Nat)
  | lenS (x : Opd)
  | lenT (x : Opd)
  | lenK (n : Nat)
  | mm (isMax : Bool) (xs : List Opd)
  | asrt (t : Nat) (zero : V) (ok : Bool) (x : Opd)
  | s2a (n : Nat) (x : Opd)
  deriving Inhabited

/-- Operations that read memory. -/
inductive ROp where
  | ld (x : Opd)
  | ldN (n : Nat) (x : Opd)
  | b2s (x : Opd)
  deriving Inhabited

/-- Operations that make one block. -/
inductive NOp where
  | alloc (zs : List V)
  | box (x : Opd)
  | bsl (len esz : Nat) (zs : List V) (parts : List (Nat × Nat × Opd))
  | mksl (esz bytes : Nat) (zs : List V) (l c : Opd)
  | s2b (x : Opd)
  deriving Inhabited

/-- Operations that write memory. -/
inductive LOp where
  | st (a x : Opd)
  | stN (n : Nat) (a x : Opd)
  | app (esz bytes : Nat) (s x : Opd)
  | cpy (esz : Nat) (d s : Opd)
  | mark (x : Opd)
  deriving Inhabited

inductive Cal where
  | st (f : Nat)
  | dyn (x : Opd)
  deriving Inhabited

inductive AOp where
  | p (o : POp)
  | r (o : ROp)
  | n (o : NOp)
  | l (o : LOp)
  | call (c : Cal) (args : List Opd)
  | dfr (c : Cal) (args : List Opd)
  | pan (x : Opd)
  | rcv
  deriving Inhabited

structure AOper where
  d : Option Nat
  o : AOp
  g : Option (Nat × Bool) := none
  deriving Inhabited

inductive ACode where
  | skip
  | reg (ops : List AOper)
  | drw (ops : List (AOper × List Nat × Bool))
  | seq (a b : ACode)
  | cond (c : Opd) (x y : ACode)
  | blk (id : Nat) (c : ACode)
  | loop (c : ACode)
  | rngf (f : Opd) (params : List Nat) (assign body : ACode)
  | exit (id : Nat)
  | ret
  | keep (l : List Nat)
  deriving Inhabited

inductive ARes where
  | t (n : Nat)
  | cell (a : Nat) (sz : Option Nat)
  deriving Inhabited

/-- gc: 0: a plain call; 1: it runs where old memory is read only, and its result names no new block: what it made is forgotten; 2: it runs in the memory of the tables alone. -/
structure AFunc where
  res : List ARes
  body : ACode
  gc : Nat := 0
  deriving Inhabited

inductive Ex where
  | norm
  | exit (id : Nat)
  | ret
  | pan (v : V)
  deriving Inhabited

/-- How a block may be used: 'ex': its slices' capacities are known; 'gr esz': they may be greater than known, of elements of esz cells; 'ro': it is not written. -/
inductive Md where
  | ex
  | gr (esz : Nat)
  | ro
  deriving Inhabited, DecidableEq

abbrev Env := List (Nat × V)

inductive Blk where
  | dead
  | cells (m : Md) (cs : List V)
  | dfl
  | loop (st : Nat) (pend : Option Ex) (env : Env) (params : List Nat) (assign body : ACode)
  deriving Inhabited

abbrev Heap := List Blk

inductive Dfr where
  | call (f : Nat) (args : List V)
  | coll (b : Nat)
  deriving Inhabited

structure Fr where
  t : Env
  d : List Dfr
  u : Option (Option V)   -- 'none': recover may not be asked; 'some none': there is nothing to recover
  deriving Inhabited

inductive Out where
  | ret (v : V)
  | pan (v : V)
  deriving Inhabited

def get : Env → Nat → V
  | [], _ => .undef
  | (j, v) :: e, i => if Nat.beq j i = true then v else get e i

def Opd.ev (e : Env) : Opd → V
  | .t n => get e n
  | .c v => v
  | .g n => .ptr n 0
  | .f n => .fn (.func n) [] []

abbrev Rho := Opd → V

def V.nat? : V → Option Nat
  | .int _ n => if 0 ≤ n then some n.toNat else none
  | _ => none

def fill (cells : List V) : List (Nat × Nat × V) → Option (List V)
  | [] => some cells
  | (off, sz, v) :: rest =>
    if v.ok = true ∧ v.cells.length = sz ∧ off + sz ≤ cells.length then fill (cells.take off ++ v.cells ++ cells.drop (off + sz)) rest else none

def binI (op : BinOp) (k : IntKind) (a b : Int) : Option V :=
  match op with
  | .add => some (.int k (k.wrap (a + b)))
  | .sub => some (.int k (k.wrap (a - b)))
  | .mul => some (.int k (k.wrap (a * b)))
  | .quo => if b = 0 then none else some (.int k (k.wrap (a.tdiv b)))
  | .rem => if b = 0 then none else some (.int k (a.tmod b))
  | .and => some (.int k (k.wrap (BitVec.ofInt k.bits a &&& BitVec.ofInt k.bits b).toNat))
  | .or => some (.int k (k.wrap (BitVec.ofInt k.bits a ||| BitVec.ofInt k.bits b).toNat))
  | .xor => some (.int k (k.wrap (BitVec.ofInt k.bits a ^^^ BitVec.ofInt k.bits b).toNat))
  | .andNot => some (.int k (k.wrap (BitVec.ofInt k.bits a &&& ~~~ BitVec.ofInt k.bits b).toNat))
  | .eql => some (.bool (a == b))
  | .neq => some (.bool (a != b))
  | .lss => some (.bool (a < b))
  | .leq => some (.bool (a ≤ b))
  | .gtr => some (.bool (a > b))
  | .geq => some (.bool (a ≥ b))
  | _ => none

def binS (op : BinOp) (x y : List UInt8) : Option V :=
  let eq := x == y
  let lt := Op.bytesLess x y
  match op with
  | .add => if x.length + y.length ≤ 140737488355328 then some (.str (x ++ y)) else none
  | .eql => some (.bool eq)
  | .neq => some (.bool !eq)
  | .lss => some (.bool lt)
  | .leq => some (.bool (lt || eq))
  | .gtr => some (.bool !(lt || eq))
  | .geq => some (.bool !lt)
  | _ => none

def evBin (op : BinOp) (x y : V) : Option V :=
  match op, x, y with
  | .shl, .int k a, .int _ b => if b < 0 then none else some (.int k (k.wrap (a * 2 ^ (min b.toNat k.bits))))
  | .shr, .int k a, .int _ b => if b < 0 then none else some (.int k (a.fdiv (2 ^ (min b.toNat k.bits))))
  | op, .int k a, .int k' b => if k = k' then binI op k a b else none
  | op, .str a, .str b => binS op a b
  | _, _, _ => none

mutual
def evEq : ETy → V → V → Option Bool
  | .int, .int k a, .int k' b => if k = k' then some (a == b) else none
  | .bool, .bool a, .bool b => some (a == b)
  | .str, .str a, .str b => some (a == b)
  | .iface, .nili, .nili => some true
  | .iface, .nili, .ifc _ _ => some false
  | .iface, .ifc _ _, .nili => some false
  | .pn, .nilp, .nilp => some true
  | .pn, .nilp, .ptr _ _ => some false
  | .pn, .ptr _ _, .nilp => some false
  | .fn, .nilf, .nilf => some true
  | .fn, .nilf, .fn _ _ _ => some false
  | .fn, .fn _ _ _, .nilf => some false
  | .mn, .nilm, .nilm => some true
  | .flat ts, .agg xs, .agg ys => evEqL ts xs ys
  | _, _, _ => none
def evEqL : List ETy → List V → List V → Option Bool
  | [], [], [] => some true
  | t :: ts, x :: xs, y :: ys => (evEq t x y).bind fun r => (evEqL ts xs ys).bind fun q => some (r && q)
  | _, _, _ => none
end

def evUn (op : UnOp) (x : V) : Option V :=
  match op, x with
  | .neg, .int k n => some (.int k (k.wrap (0 - n)))
  | .xor, .int k n => some (.int k (k.wrap (BitVec.ofInt k.bits (if k.signed then -1 else k.max) ^^^ BitVec.ofInt k.bits n).toNat))
  | .not, .bool b => some (.bool !b)
  | _, _ => none

/-- The bounds of a slice expression: low, high, max. -/
def bounds (n c : Nat) (lo hi mx : Option V) : Option (Nat × Nat × Nat) :=
  let m := match mx with | some v => v.nat? | none => some c
  let h := match hi with | some v => v.nat? | none => some n
  let l := match lo with | some v => v.nat? | none => some 0
  match l, h, m with
  | some l, some h, some m => if l ≤ h ∧ h ≤ m ∧ m ≤ c ∧ (mx.isSome = true → hi.isSome = true) then some (l, h, m) else none
  | _, _, _ => none

def mm2 (isMax : Bool) (x y : V) : Option V :=
  match x, y with
  | .int k a, .int k' b => if k = k' then some (.int k (if isMax then (if b > a then b else a) else (if b < a then b else a))) else none
  | _, _ => none

def mmL (isMax : Bool) : V → List V → Option V
  | x, [] => some x
  | x, y :: r => (mm2 isMax x y).bind fun z => mmL isMax z r

def part (cs : List V) (off : Nat) (sz : Option Nat) : Option V :=
  match sz with
  | some n => if off + n ≤ cs.length then some (.agg ((cs.drop off).take n)) else none
  | none => cs[off]?

def POp.ev (ρ : Rho) : POp → Option V
  | .mv x => some (ρ x)
  | .pick c a b => match ρ c with | .bool true => some (ρ a) | .bool false => some (ρ b) | _ => none
  | .build zs parts => (fill zs (parts.map fun (o, s, x) => (o, s, ρ x))).map .agg
  | .nilck x => match ρ x with
    | .ptr b o => some (.ptr b o)
    | .ifc t v => some (.ifc t v)
    | .fn (.func f) a b => some (.fn (.func f) a b)
    | .fn (.yield f) a b => some (.fn (.yield f) a b)
    | _ => none
  | .bin op x y => evBin op (ρ x) (ρ y)
  | .eqv neg t x y => (evEq t (ρ x) (ρ y)).map fun r => .bool (if neg then !r else r)
  | .un op x => evUn op (ρ x)
  | .conv k x => match ρ x with | .int _ n => some (.int k (k.wrap n)) | _ => none
  | .retag x => match ρ x with | .str s => some (.str s) | _ => none
  | .mkif t x => some (.ifc t (ρ x))
  | .mkfn fn a b => some (.fn fn (a.map ρ) (b.map ρ))
  | .slStr x lo hi => match ρ x with
    | .str s => (bounds s.length s.length (lo.map ρ) (hi.map ρ) none).map fun (l, h, _) => .str ((s.take h).drop l)
    | _ => none
  | .slSl esz x lo hi mx => match ρ x with
    | .sl e b o n c => if e = esz then (bounds n c (lo.map ρ) (hi.map ρ) (mx.map ρ)).map fun (l, h, m) => .sl esz b (if m = l then o else o + l * esz) (h - l) (m - l) else none
    | .nils => (bounds 0 0 (lo.map ρ) (hi.map ρ) (mx.map ρ)).map fun _ => .nils
    | _ => none
  | .slArr n esz x lo hi mx => match ρ x with
    | .ptr b o => (bounds n n (lo.map ρ) (hi.map ρ) (mx.map ρ)).map fun (l, h, m) => .sl esz b (if m = l then o else o + l * esz) (h - l) (m - l)
    | _ => none
  | .fieldA off x => match ρ x with | .ptr b o => some (.ptr b (o + off)) | _ => none
  | .field off sz x => match ρ x with | .agg cs => part cs off sz | _ => none
  | .idxA n esz x i => match ρ x, (ρ i).nat? with
    | .ptr b o, some j => if j < n then some (.ptr b (o + j * esz)) else none
    | _, _ => none
  | .idxS esz x i => match ρ x, (ρ i).nat? with
    | .sl _ b o n _, some j => if j < n then some (.ptr b (o + j * esz)) else none
    | _, _ => none
  | .idx n esz sz x i => match ρ x, (ρ i).nat? with
    | .agg cs, some j => if j < n then part cs (j * esz) sz else none
    | _, _ => none
  | .idxStr x i => match ρ x, (ρ i).nat? with
    | .str s, some j => (s[j]?).map fun b => .int .u8 b.toNat
    | _, _ => none
  | .ext x i => match ρ x with | .tup vs => vs[i]? | _ => none
  | .lenS x => match ρ x with
    | .sl _ _ _ n _ => some (.int .i64 n)
    | .nils => some (.int .i64 0)
    | _ => none
  | .lenT x => match ρ x with
    | .str s => some (.int .i64 s.length)
    | _ => none
  | .lenK n => some (.int .i64 n)
  | .mm isMax xs => match xs with | x :: r => mmL isMax (ρ x) (r.map ρ) | [] => none
  | .asrt t zero ok x => match ρ x with
    | .ifc t' v => if t' = t then some (if ok then .tup [v, .bool true] else v) else if ok then some (.tup [zero, .bool false]) else none
    | .nili => if ok then some (.tup [zero, .bool false]) else none
    | _ => none
  | .s2a n x => match ρ x with
    | .sl _ b o l _ => if n ≤ l then some (.ptr b o) else none
    | _ => none

def cellsAt (h : Heap) (b : Nat) : Option (List V) :=
  match h[b]? with
  | some (.cells _ cs) => some cs
  | _ => none

def readN (h : Heap) (b o n : Nat) : Option (List V) :=
  (cellsAt h b).bind fun cs => if o + n ≤ cs.length then some ((cs.drop o).take n) else none

def bytesOf : List V → Option (List UInt8)
  | [] => some []
  | .int .u8 n :: r => (bytesOf r).map (UInt8.ofNat n.toNat :: ·)
  | _ :: _ => none

def ROp.ev (ρ : Rho) (h : Heap) : ROp → Option V
  | .ld x => match ρ x with | .ptr b o => (cellsAt h b).bind fun cs => cs[o]? | _ => none
  | .ldN n x => match ρ x with | .ptr b o => (readN h b o n).map .agg | _ => none
  | .b2s x => match ρ x with
    | .nils => some (.str [])
    | .sl _ b o n _ => ((readN h b o n).bind bytesOf).map .str
    | _ => none

def rep (n : Nat) (zs : List V) : List V := (List.replicate n zs).flatten

def NOp.ev (ρ : Rho) : NOp → Option (Blk × (Nat → V))
  | .alloc zs => some (.cells .ex zs, fun b => .ptr b 0)
  | .box x => if (ρ x).ok = true then some (.cells .ex (ρ x).cells, fun b => .ptr b 0) else none
  | .bsl len esz zs parts => (fill (rep len zs) (parts.map fun (o, s, x) => (o, s, ρ x))).bind fun cs =>
      if zs.length = esz then some (.cells .ex cs, fun b => .sl esz b 0 len len) else none
  | .mksl esz bytes zs l c => match (ρ l).nat?, (ρ c).nat? with
    | some l, some c => if l ≤ c ∧ c ≤ 140737488355328 ∧ bytes * c ≤ 140737488355328 ∧ zs.length = esz then some (.cells .ex (rep c zs), fun b => .sl esz b 0 l c) else none
    | _, _ => none
  | .s2b x => match ρ x with
    | .str s => some (.cells (.gr 1) (s.map fun (x : UInt8) => .int .u8 x.toNat), fun b => .sl 1 b 0 s.length s.length)
    | _ => none

/-- Cells are written into a block that may be written. -/
def writeN (h : Heap) (b o : Nat) (xs : List V) : Option Heap :=
  match h[b]? with
  | some (.cells m cs) =>
    if m ≠ .ro ∧ o + xs.length ≤ cs.length ∧ xs.all V.one then some (h.set b (.cells m (cs.take o ++ xs ++ cs.drop (o + xs.length)))) else none
  | _ => none

/-- The cells of the elements that are appended or copied. -/
def srcCells (h : Heap) (esz : Nat) : V → Option (Nat × List V)
  | .nils => some (0, [])
  | .sl _ b o n _ => (readN h b o (n * esz)).map fun cs => (n, cs)
  | .str s => if esz = 1 then some (s.length, s.map fun (x : UInt8) => V.int .u8 x.toNat) else none
  | _ => none

def evApp (esz bytes : Nat) (h : Heap) (s x : V) : Option (V × Heap) :=
  (srcCells h esz x).bind fun (n, new) =>
  if new.all V.one = true then
  match s with
  | .nils =>
    if n = 0 then some (.nils, h) else
    if n ≤ 17592186044416 ∧ n * bytes ≤ 17592186044416 then some (.sl esz h.length 0 n n, h ++ [.cells (.gr esz) new]) else none
  | .sl e b o l c =>
    if e = esz then
    if n = 0 ∧ l ≤ c then some (.sl e b o l c, h) else
    if l + n ≤ c then (writeN h b (o + l * esz) new).map fun h' => (.sl e b o (l + n) c, h') else
    if l ≤ c ∧ l + n ≤ 17592186044416 ∧ (l + n) * bytes ≤ 17592186044416 then
      (readN h b o (l * esz)).bind fun old =>
      match h[b]? with
      | some (.cells .ex _) => some (.sl esz h.length 0 (l + n) (l + n), h ++ [.cells (.gr esz) (old ++ new)])
      | some (.cells (.gr _) _) => some (.sl esz h.length 0 (l + n) (l + n), h.set b .dead ++ [.cells (.gr esz) (old ++ new)])
      | _ => none
    else none
    else none
  | _ => none
  else none

def lenV : V → Option Nat
  | .nils => some 0
  | .sl _ _ _ n _ => some n
  | .str s => some s.length
  | _ => none

def lenD : V → Option Nat
  | .nils => some 0
  | .sl _ _ _ n _ => some n
  | _ => none

def cpyCells (esz : Nat) (h : Heap) (n : Nat) : V → Option (List V)
  | .sl _ b o _ _ => readN h b o (n * esz)
  | .str s => if esz = 1 then some ((s.take n).map fun (x : UInt8) => V.int .u8 x.toNat) else none
  | _ => none

def evCpy (esz : Nat) (h : Heap) (d s : V) : Option (V × Heap) :=
  (lenD d).bind fun dn => (lenV s).bind fun sn =>
  if min sn dn = 0 then some (.int .i64 0, h) else
  match d with
  | .sl _ b o _ _ => (cpyCells esz h (min sn dn) s).bind fun cs => (writeN h b o cs).map fun h' => (.int .i64 ((min sn dn : Nat) : Int), h')
  | _ => none

def LOp.ev (ρ : Rho) (h : Heap) : LOp → Option (V × Heap)
  | .st a x => match ρ a with | .ptr b o => (writeN h b o [ρ x]).map fun h => (.undef, h) | _ => none
  | .stN n a x => match ρ a, ρ x with
    | .ptr b o, .agg cs => if cs.length = n then (writeN h b o cs).map fun h => (.undef, h) else none
    | _, _ => none
  | .app esz bytes s x => evApp esz bytes h (ρ s) (ρ x)
  | .cpy esz d s => evCpy esz h (ρ d) (ρ s)
  | .mark x => match ρ x with
    | .sl e b o n c => match h[b]? with
      | some (.cells .ex _) => some (.sl e b o n c, h)
      | _ => none
    | _ => none

/-- What the machine asks of itself with less fuel. -/
structure Rec where
  call : Nat → List V → Option V → Heap → Option (Out × Option V × Heap)
  code : ACode → Fr → Heap → Option (Ex × Fr × Heap)

def put (e : Env) (d : Option Nat) (v : V) : Env := match d with | some i => (i, v) :: e | none => e

def wanted (e : Env) : Option (Nat × Bool) → Option Bool
  | none => some true
  | some (i, x) => match get e i with | .bool b => some (b == x) | .tup _ => some false | _ => none

def zipArgs : List Nat → List V → Env → Option Env
  | [], [], e => some e
  | p :: ps, v :: vs, e => zipArgs ps vs ((p, v) :: e)
  | _, _, _ => none

/-- A call of a function value. -/
def callV (r : Rec) (f : V) (args : List V) (h : Heap) : Option (Out × Heap) :=
  match f with
  | .fn (.func f) first caps => (r.call f (first ++ args ++ caps) none h).map fun (o, _, h) => (o, h)
  | .fn (.yield l) [] [] =>
    match h[l]? with
    | some (.loop 0 none env ps asg body) =>
      (zipArgs ps args env).bind fun env =>
      (r.code asg ⟨env, [], none⟩ h).bind fun (e, fr, h1) =>
      match e, fr.d, h1[l]? with
      | .norm, [], some (.loop 0 none env0 ps0 asg0 body0) =>
        (r.code body fr (h1.set l (.loop 1 none env0 ps0 asg0 body0))).bind fun (e, fr, h2) =>
        match e, fr.d, h2[l]? with
        | .norm, [], some (.loop 1 none env0 ps0 asg0 body0) => some (.ret (.bool true), h2.set l (.loop 0 none env0 ps0 asg0 body0))
        | .exit id, [], some (.loop 1 none env0 ps0 asg0 body0) => some (.ret (.bool false), h2.set l (.loop 2 (some (.exit id)) env0 ps0 asg0 body0))
        | .ret, [], some (.loop 1 none env0 ps0 asg0 body0) => some (.ret (.bool false), h2.set l (.loop 2 (some .ret) env0 ps0 asg0 body0))
        | .pan v, [], _ => some (.pan v, h2)
        | _, _, _ => none
      | _, _, _ => none
    | _ => none
  | _ => none

def callC (r : Rec) (c : Cal) (ρ : Rho) (args : List V) (h : Heap) : Option (Out × Heap) :=
  match c with
  | .st f => (r.call f args none h).map fun (o, _, h) => (o, h)
  | .dyn x => callV r (ρ x) args h

def dfrOf (c : Cal) (ρ : Rho) (args : List V) : Option Dfr :=
  match c with
  | .st f => some (.call f args)
  | .dyn x => match ρ x with | .fn (.func f) first caps => some (.call f (first ++ args ++ caps)) | _ => none

def stepOp (r : Rec) (o : AOper) (fr : Fr) (h : Heap) : Option (Ex × Fr × Heap) :=
  (wanted fr.t o.g).bind fun b =>
  if b = true then
    match o.o with
    | .p q => (q.ev (Opd.ev fr.t)).map fun v => (.norm, { fr with t := put fr.t o.d v }, h)
    | .r q => (q.ev (Opd.ev fr.t) h).map fun v => (.norm, { fr with t := put fr.t o.d v }, h)
    | .n q => (q.ev (Opd.ev fr.t)).map fun (b, v) => (.norm, { fr with t := put fr.t o.d (v h.length) }, h ++ [b])
    | .l q => (q.ev (Opd.ev fr.t) h).map fun (v, h) => (.norm, { fr with t := put fr.t o.d v }, h)
    | .call c args => (callC r c (Opd.ev fr.t) (args.map (Opd.ev fr.t)) h).map fun (x, h) =>
        match x with
        | .ret v => (.norm, { fr with t := put fr.t o.d v }, h)
        | .pan v => (.pan v, fr, h)
    | .dfr c args => if fr.u.isSome = true then (dfrOf c (Opd.ev fr.t) (args.map (Opd.ev fr.t))).map fun d => (.norm, { fr with t := put fr.t o.d .undef, d := d :: fr.d }, h) else none
    | .pan x => match Opd.ev fr.t x with | .ifc t v => some (.pan (.ifc t v), fr, h) | _ => none
    | .rcv => match fr.u with
      | some (some v) => some (.norm, { fr with t := put fr.t o.d v, u := some none }, h)
      | some none => some (.norm, { fr with t := put fr.t o.d .nili }, h)
      | none => none
  else some (.norm, { fr with t := put fr.t o.d (.tup []) }, h)

def stepOps (r : Rec) : List AOper → Fr → Heap → Option (Ex × Fr × Heap)
  | [], fr, h => some (.norm, fr, h)
  | o :: os, fr, h => (stepOp r o fr h).bind fun (e, fr, h) => match e with | .norm => stepOps r os fr h | e => some (e, fr, h)

mutual
def veq : V → V → Bool
  | .undef, .undef => true
  | .int k a, .int k' b => decide (k = k') && decide (a = b)
  | .bool a, .bool b => a == b
  | .str a, .str b => decide (a = b)
  | .ptr a o, .ptr b q => Nat.beq a b && Nat.beq o q
  | .nilp, .nilp => true
  | .sl e a o n c, .sl e' a' o' n' c' => Nat.beq e e' && (Nat.beq a a' && (Nat.beq o o' && (Nat.beq n n' && Nat.beq c c')))
  | .nils, .nils => true
  | .agg a, .agg b => veqL a b
  | .tup a, .tup b => veqL a b
  | .fn f a b, .fn f' a' b' => decide (f = f') && veqL a a' && veqL b b'
  | .nilf, .nilf => true
  | .ifc t a, .ifc t' b => Nat.beq t t' && veq a b
  | .nili, .nili => true
  | .map a, .map b => Nat.beq a b
  | .nilm, .nilm => true
  | _, _ => false
def veqL : List V → List V → Bool
  | [], [] => true
  | a :: as, b :: bs => veq a b && veqL as bs
  | _, _ => false
end

/-- In a region whose order is open: what reads gives the same in each heap in which it may run. -/
def same (ρ : Rho) (q : ROp) (v : V) (snaps : List Heap) : List Nat → Bool
  | [] => true
  | i :: is => (match snaps[i]? with | some h => (match q.ev ρ h with | some v' => veq v' v | none => false) | none => false) && same ρ q v snaps is

def AOp.loud : AOp → Bool
  | .l _ | .call .. | .dfr .. | .pan _ | .rcv => true
  | _ => false

def sameOp (o : AOper) (fr : Fr) (h : Heap) (sn : List Heap) (is : List Nat) : Bool :=
  match wanted fr.t o.g, o.o with
  | some true, .r q => (match q.ev (Opd.ev fr.t) h with | some v => same (Opd.ev fr.t) q v sn is | none => false)
  | _, _ => true

/-- A region whose order is open: the operations in one order; for each the numbers of the loud ones ahead of it that need not be ahead of it, and whether all others are behind or ahead of it. -/
def execDrw (r : Rec) : List (AOper × List Nat × Bool) → List Heap → Fr → Heap → Option (Ex × Fr × Heap)
  | [], _, fr, h => some (.norm, fr, h)
  | (o, is, pf) :: os, sn, fr, h =>
    if sameOp o fr h sn is = true then
      (stepOp r o fr h).bind fun (e, fr', h') =>
        match e with
        | .norm => execDrw r os (if o.o.loud then sn ++ [h] else sn) fr' h'
        | .pan v => if pf = true then some (.pan v, fr', h') else none
        | _ => none
    else none

def execRng (r : Rec) (f : V) (ps : List Nat) (asg body : ACode) (fr : Fr) (h : Heap) : Option (Ex × Fr × Heap) :=
  if fr.u.isSome = true then
  (callV r f [.fn (.yield (h.length + 1)) [] []] (h ++ [.dfl, .loop 0 none fr.t ps asg body])).bind fun (o, h2) =>
  match o with
  | .pan v => some (.pan v, { fr with d := .coll h.length :: fr.d }, h2)
  | .ret _ =>
    match h2[h.length + 1]? with
    | some (.loop 0 none e p a b) => some (.norm, { fr with d := .coll h.length :: fr.d }, h2.set (h.length + 1) (.loop 3 none e p a b))
    | some (.loop 2 (some ex) e p a b) => some (ex, { fr with d := .coll h.length :: fr.d }, h2.set (h.length + 1) (.loop 3 (some ex) e p a b))
    | _ => none
  else none

def execC (r : Rec) : ACode → Fr → Heap → Option (Ex × Fr × Heap)
  | .skip, fr, h => some (.norm, fr, h)
  | .reg ops, fr, h => stepOps r ops fr h
  | .drw ops, fr, h => execDrw r ops [] fr h
  | .seq a b, fr, h => (execC r a fr h).bind fun (e, fr, h) => match e with | .norm => execC r b fr h | e => some (e, fr, h)
  | .cond c a b, fr, h => match c.ev fr.t with | .bool true => execC r a fr h | .bool false => execC r b fr h | _ => none
  | .blk id c, fr, h => (execC r c fr h).bind fun (e, fr, h) => match e with
    | .exit i => if Nat.beq i id = true then some (.norm, fr, h) else some (.exit i, fr, h)
    | e => some (e, fr, h)
  | .loop c, fr, h => (execC r c fr h).bind fun (e, fr, h) => match e with | .norm => r.code (.loop c) fr h | e => some (e, fr, h)
  | .rngf f ps asg body, fr, h => execRng r (f.ev fr.t) ps asg body fr h
  | .exit id, fr, h => some (.exit id, fr, h)
  | .ret, fr, h => some (.ret, fr, h)
  | .keep l, fr, h => some (.norm, { fr with t := l.map fun i => (i, get fr.t i) }, h)

def resOf (e : Env) (h : Heap) : ARes → Option V
  | .t n => some (get e n)
  | .cell a none => match get e a with | .ptr b o => (cellsAt h b).bind fun cs => cs[o]? | _ => none
  | .cell a (some n) => match get e a with | .ptr b o => (readN h b o n).map .agg | _ => none

def resAll (e : Env) (h : Heap) : List ARes → Option (List V)
  | [] => some []
  | r :: rs => (resOf e h r).bind fun v => (resAll e h rs).bind fun vs => some (v :: vs)

def resV (e : Env) (h : Heap) (rs : List ARes) : Option V :=
  (resAll e h rs).bind fun vs => match vs with | [v] => some v | vs => some (.tup vs)

/-- The deferred calls, the last one first. -/
def leave (r : Rec) (rs : List ARes) (e : Env) (u : Option V) : List Dfr → Option V → Heap → Option (Out × Option V × Heap)
  | [], none, h => (resV e h rs).map fun v => (.ret v, u, h)
  | [], some v, h => some (.pan v, u, h)
  | .coll b :: ds, m, h => match h[b]? with | some .dfl => leave r rs e u ds m (h.set b .dead) | _ => none
  | .call f args :: ds, m, h =>
    if u.isSome then none else
    (r.call f args m h).bind fun (o, m', h') =>
      match o with
      | .ret _ => leave r rs e u ds m' h'
      | .pan v => match m with | none => leave r rs e u ds (some v) h' | some _ => none

def frame0 (args : List V) (u : Option V) : Fr := ⟨args.zipIdx.map fun (v, i) => (i, v), [], some u⟩

def callB (r : Rec) (af : AFunc) (args : List V) (u : Option V) (h : Heap) : Option (Out × Option V × Heap) :=
  (execC r af.body (frame0 args u) h).bind fun (e, fr, h) =>
    match e, fr.u with
    | .norm, some u => leave r af.res fr.t u fr.d none h
    | .ret, some u => leave r af.res fr.t u fr.d none h
    | .pan v, some u => leave r af.res fr.t u fr.d (some v) h
    | _, _ => none

def Blk.ro : Blk → Blk
  | .cells _ cs => .cells .ro cs
  | _ => .dead

def roH (h : Heap) : Heap := h.map Blk.ro

def Out.bel (n : Nat) : Out → Bool
  | .ret v => v.bel n
  | .pan v => v.bel n

def belO (n : Nat) : Option V → Bool
  | none => true
  | some v => v.bel n

structure Tbl where
  fn : Nat → Option AFunc
  tab : Heap

def callG (T : Tbl) (r : Rec) (f : Nat) (args : List V) (u : Option V) (h : Heap) : Option (Out × Option V × Heap) :=
  match T.fn f with
  | none => none
  | some af =>
    if Nat.beq af.gc 0 = true then callB r af args u h
    else if Nat.beq af.gc 1 = true then
      (callB r af args u (roH h)).bind fun (o, u', _) => if (o.bel h.length && belO h.length u') = true then some (o, u', h) else none
    else if u.isNone = true ∧ belowL T.tab.length args = true then
      (callB r af args u T.tab).bind fun (o, u', _) => if (o.bel T.tab.length && belO T.tab.length u') = true then some (o, u', h) else none
    else none

def execK (T : Tbl) : Nat → Rec
  | 0 => ⟨fun _ _ _ _ => none, fun _ _ _ => none⟩
  | k + 1 => ⟨callG T (execK T k), execC (execK T k)⟩

end Go.A

/- What the machine A computes with whatever fuel: 'run', and its equations. -/
set_option linter.unusedVariables false
set_option linter.unusedSimpArgs false
set_option linter.unusedSectionVars false
namespace Go.A

/-- What the first gives the second gives too. -/
def Le {α : Type} (a b : Option α) : Prop := ∀ y, a = some y → b = some y

theorem Le.refl {α : Type} (a : Option α) : Le a a := fun _ h => h

theorem Le.none {α : Type} (b : Option α) : Le none b := fun _ h => by cases h

theorem Le.bind {α β : Type} {a b : Option α} {f g : α → Option β} (h : Le a b) (k : ∀ x, Le (f x) (g x)) : Le (a.bind f) (b.bind g) := by
  intro y hy
  cases ha : a with
  | none => rw [ha] at hy; cases hy
  | some x => rw [ha] at hy; rw [h x ha]; exact k x y hy

theorem Le.map {α β : Type} {a b : Option α} (f : α → β) (h : Le a b) : Le (a.map f) (b.map f) := by
  intro y hy
  cases ha : a with
  | none => rw [ha] at hy; cases hy
  | some x => rw [ha] at hy; rw [h x ha]; exact hy

structure Rec.le (r r' : Rec) : Prop where
  call : ∀ f args u h, Le (r.call f args u h) (r'.call f args u h)
  code : ∀ c fr h, Le (r.code c fr h) (r'.code c fr h)

section mono
variable {r r' : Rec} (hr : r.le r')
include hr

theorem callV_mono (f : V) (args : List V) (h : Heap) : Le (callV r f args h) (callV r' f args h) := by
  unfold callV
  repeat' split
  all_goals first
    | exact Le.none _
    | exact Le.map _ (hr.call _ _ _ _)
    | (refine Le.bind (Le.refl _) fun env => Le.bind (hr.code _ _ _) fun x => ?_
       obtain ⟨e, fr, h1⟩ := x
       dsimp only
       split
       · refine Le.bind (hr.code _ _ _) fun x => ?_
         obtain ⟨e, fr, h2⟩ := x
         exact Le.refl _
       · exact Le.none _)

theorem callC_mono (c : Cal) (ρ : Rho) (args : List V) (h : Heap) : Le (callC r c ρ args h) (callC r' c ρ args h) := by
  unfold callC
  split
  · exact Le.map _ (hr.call _ _ _ _)
  · exact callV_mono hr _ _ _

theorem stepOp_mono (o : AOper) (fr : Fr) (h : Heap) : Le (stepOp r o fr h) (stepOp r' o fr h) := by
  unfold stepOp
  refine Le.bind (Le.refl _) fun b => ?_
  split
  · split
    all_goals first
      | exact Le.refl _
      | exact Le.map _ (callC_mono hr _ _ _ _)
  · exact Le.refl _

theorem stepOps_mono : ∀ (os : List AOper) (fr : Fr) (h : Heap), Le (stepOps r os fr h) (stepOps r' os fr h)
  | [], _, _ => Le.refl _
  | o :: os, fr, h => by
    simp only [stepOps]
    refine Le.bind (stepOp_mono hr o fr h) fun x => ?_
    obtain ⟨e, fr', h'⟩ := x
    dsimp only
    split
    · exact stepOps_mono os _ _
    · exact Le.refl _

theorem execDrw_mono : ∀ (os : List (AOper × List Nat × Bool)) (sn : List Heap) (fr : Fr) (h : Heap), Le (execDrw r os sn fr h) (execDrw r' os sn fr h)
  | [], _, _, _ => Le.refl _
  | (o, is, pf) :: os, sn, fr, h => by
    simp only [execDrw]
    split
    · refine Le.bind (stepOp_mono hr o fr h) fun x => ?_
      obtain ⟨e, fr', h'⟩ := x
      dsimp only
      split
      · exact execDrw_mono os _ _ _
      · exact Le.refl _
      · exact Le.none _
    · exact Le.none _

theorem execRng_mono (f : V) (ps : List Nat) (asg body : ACode) (fr : Fr) (h : Heap) : Le (execRng r f ps asg body fr h) (execRng r' f ps asg body fr h) := by
  unfold execRng
  split
  · refine Le.bind (callV_mono hr _ _ _) fun x => ?_
    obtain ⟨o, h2⟩ := x
    exact Le.refl _
  · exact Le.refl _

theorem execC_mono : ∀ (c : ACode) (fr : Fr) (h : Heap), Le (execC r c fr h) (execC r' c fr h)
  | .skip, _, _ => Le.refl _
  | .reg ops, fr, h => stepOps_mono hr ops fr h
  | .drw ops, fr, h => execDrw_mono hr ops [] fr h
  | .seq a b, fr, h => by
    simp only [execC]
    refine Le.bind (execC_mono a fr h) fun x => ?_
    obtain ⟨e, fr', h'⟩ := x
    dsimp only
    split
    · exact execC_mono b _ _
    · exact Le.refl _
  | .cond c a b, fr, h => by
    simp only [execC]
    split
    · exact execC_mono a _ _
    · exact execC_mono b _ _
    · exact Le.none _
  | .blk id c, fr, h => by
    simp only [execC]
    refine Le.bind (execC_mono c fr h) fun x => ?_
    exact Le.refl _
  | .loop c, fr, h => by
    simp only [execC]
    refine Le.bind (execC_mono c fr h) fun x => ?_
    obtain ⟨e, fr', h'⟩ := x
    dsimp only
    split
    · exact hr.code _ _ _
    · exact Le.refl _
  | .rngf f ps asg body, fr, h => execRng_mono hr _ _ _ _ _ _
  | .exit _, _, _ => Le.refl _
  | .ret, _, _ => Le.refl _
  | .keep _, _, _ => Le.refl _

theorem leave_mono (rs : List ARes) (e : Env) (u : Option V) : ∀ (ds : List Dfr) (m : Option V) (h : Heap), Le (leave r rs e u ds m h) (leave r' rs e u ds m h)
  | [], none, _ => Le.refl _
  | [], some _, _ => Le.refl _
  | .coll b :: ds, m, h => by
    simp only [leave]
    split
    · exact leave_mono rs e u ds m _
    · exact Le.none _
  | .call f args :: ds, m, h => by
    simp only [leave]
    split
    · exact Le.none _
    · refine Le.bind (hr.call _ _ _ _) fun x => ?_
      obtain ⟨o, m', h'⟩ := x
      dsimp only
      split
      · exact leave_mono rs e u ds m' _
      · split
        · exact leave_mono rs e u ds _ _
        · exact Le.none _

theorem callB_mono (af : AFunc) (args : List V) (u : Option V) (h : Heap) : Le (callB r af args u h) (callB r' af args u h) := by
  unfold callB
  refine Le.bind (execC_mono hr _ _ _) fun x => ?_
  obtain ⟨e, fr, h'⟩ := x
  dsimp only
  split
  · exact leave_mono hr _ _ _ _ _ _
  · exact leave_mono hr _ _ _ _ _ _
  · exact leave_mono hr _ _ _ _ _ _
  · exact Le.none _

theorem callG_mono (T : Tbl) (f : Nat) (args : List V) (u : Option V) (h : Heap) : Le (callG T r f args u h) (callG T r' f args u h) := by
  unfold callG
  split
  · exact Le.none _
  · split
    · exact callB_mono hr _ _ _ _
    · split
      · refine Le.bind (callB_mono hr _ _ _ _) fun x => Le.refl _
      · split
        · refine Le.bind (callB_mono hr _ _ _ _) fun x => Le.refl _
        · exact Le.none _
end mono

variable (T : Tbl)

theorem execK_succ : ∀ k, (execK T k).le (execK T (k + 1))
  | 0 => ⟨fun _ _ _ _ => Le.none _, fun _ _ _ => Le.none _⟩
  | k + 1 => ⟨fun f args u h => callG_mono (execK_succ k) T f args u h, fun c fr h => execC_mono (execK_succ k) c fr h⟩

theorem Rec.le.trans {a b c : Rec} (h : a.le b) (k : b.le c) : a.le c :=
  ⟨fun f args u hh y e => k.call _ _ _ _ _ (h.call _ _ _ _ _ e), fun f args u y e => k.code _ _ _ _ (h.code _ _ _ _ e)⟩

theorem execK_le {k m : Nat} (h : k ≤ m) : (execK T k).le (execK T m) := by
  induction h with
  | refl => exact ⟨fun _ _ _ _ => Le.refl _, fun _ _ _ => Le.refl _⟩
  | step _ ih => exact ih.trans (execK_succ T _)

/-- What comes out with enough fuel. -/
noncomputable def pickSome {α : Type} (g : Nat → Option α) : Option α :=
  open Classical in if hx : ∃ y, ∃ k, g k = some y then some hx.choose else none

theorem pickSome_of {α : Type} {g : Nat → Option α} (hg : ∀ k m, k ≤ m → Le (g k) (g m)) {k : Nat} {y : α} (h : g k = some y) : pickSome g = some y := by
  unfold pickSome
  have hx : ∃ y, ∃ k, g k = some y := ⟨y, k, h⟩
  rw [dif_pos hx]
  obtain ⟨m, hm⟩ := hx.choose_spec
  have h1 := hg k (max k m) (Nat.le_max_left _ _) _ h
  have h2 := hg m (max k m) (Nat.le_max_right _ _) _ hm
  rw [h1] at h2
  exact h2.symm

theorem pickSome_some {α : Type} {g : Nat → Option α} {y : α} (h : pickSome g = some y) : ∃ k, g k = some y := by
  unfold pickSome at h
  split at h
  · rename_i hx
    cases h
    exact hx.choose_spec
  · cases h

noncomputable def run : Rec where
  call f args u h := pickSome fun k => (execK T k).call f args u h
  code c fr h := pickSome fun k => (execK T k).code c fr h

theorem execK_le_run (k : Nat) : (execK T k).le (run T) :=
  ⟨fun f args u h _ e => pickSome_of (fun _ _ hkm => (execK_le T hkm).call f args u h) e, fun c fr h _ e => pickSome_of (fun _ _ hkm => (execK_le T hkm).code c fr h) e⟩

/-- A part of the machine that asks 'run' finitely often. -/
def Cts {α : Type} (G : Rec → Option α) : Prop := ∀ y, G (run T) = some y → ∃ k, ∀ m, k ≤ m → G (execK T m) = some y

variable {T}

theorem Cts.const {α : Type} (a : Option α) : Cts T fun _ => a := fun _ h => ⟨0, fun _ _ => h⟩

theorem Cts.bind {α β : Type} {A : Rec → Option α} {B : α → Rec → Option β} (hA : Cts T A) (hB : ∀ x, Cts T (B x)) : Cts T fun r => (A r).bind fun x => B x r := by
  intro y h
  dsimp only at h
  cases ha : A (run T) with
  | none => rw [ha] at h; cases h
  | some x =>
    rw [ha] at h
    obtain ⟨k, hk⟩ := hA x ha
    obtain ⟨k', hk'⟩ := hB x y h
    refine ⟨max k k', fun m hm => ?_⟩
    dsimp only
    rw [hk m (by omega)]
    exact hk' m (by omega)

theorem Cts.map {α β : Type} {A : Rec → Option α} (f : α → β) (hA : Cts T A) : Cts T fun r => (A r).map f := by
  intro y h
  dsimp only at h
  cases ha : A (run T) with
  | none => rw [ha] at h; cases h
  | some x =>
    rw [ha] at h
    obtain ⟨k, hk⟩ := hA x ha
    refine ⟨k, fun m hm => ?_⟩
    dsimp only
    rw [hk m hm]
    exact h

theorem Cts.call (f : Nat) (args : List V) (u : Option V) (h : Heap) : Cts T fun r => r.call f args u h := fun _ e =>
  let ⟨k, hk⟩ := pickSome_some e
  ⟨k, fun _ hm => (execK_le T hm).call _ _ _ _ _ hk⟩

theorem Cts.code (c : ACode) (fr : Fr) (h : Heap) : Cts T fun r => r.code c fr h := fun _ e =>
  let ⟨k, hk⟩ := pickSome_some e
  ⟨k, fun _ hm => (execK_le T hm).code _ _ _ _ hk⟩

theorem callV_cts (f : V) (args : List V) (h : Heap) : Cts T fun r => callV r f args h := by
  unfold callV
  repeat' split
  all_goals first
    | exact Cts.const _
    | exact Cts.map _ (Cts.call _ _ _ _)
    | (refine Cts.bind (Cts.const _) fun env => Cts.bind (Cts.code _ _ _) fun x => ?_
       obtain ⟨e, fr, h1⟩ := x
       dsimp only
       split
       · refine Cts.bind (Cts.code _ _ _) fun x => ?_
         exact Cts.const _
       · exact Cts.const _)

theorem callC_cts (c : Cal) (ρ : Rho) (args : List V) (h : Heap) : Cts T fun r => callC r c ρ args h := by
  unfold callC
  split
  · exact Cts.map _ (Cts.call _ _ _ _)
  · exact callV_cts _ _ _

theorem stepOp_cts (o : AOper) (fr : Fr) (h : Heap) : Cts T fun r => stepOp r o fr h := by
  unfold stepOp
  refine Cts.bind (Cts.const _) fun b => ?_
  split
  · split
    all_goals first
      | exact Cts.const _
      | exact Cts.map _ (callC_cts _ _ _ _)
  · exact Cts.const _

theorem stepOps_cts : ∀ (os : List AOper) (fr : Fr) (h : Heap), Cts T fun r => stepOps r os fr h
  | [], _, _ => Cts.const _
  | o :: os, fr, h => by
    simp only [stepOps]
    refine Cts.bind (stepOp_cts o fr h) fun x => ?_
    obtain ⟨e, fr', h'⟩ := x
    dsimp only
    split
    · exact stepOps_cts os _ _
    · exact Cts.const _

theorem execDrw_cts : ∀ (os : List (AOper × List Nat × Bool)) (sn : List Heap) (fr : Fr) (h : Heap), Cts T fun r => execDrw r os sn fr h
  | [], _, _, _ => Cts.const _
  | (o, is, pf) :: os, sn, fr, h => by
    simp only [execDrw]
    split
    · refine Cts.bind (stepOp_cts o fr h) fun x => ?_
      obtain ⟨e, fr', h'⟩ := x
      dsimp only
      split
      · exact execDrw_cts os _ _ _
      · exact Cts.const _
      · exact Cts.const _
    · exact Cts.const _

theorem execRng_cts (f : V) (ps : List Nat) (asg body : ACode) (fr : Fr) (h : Heap) : Cts T fun r => execRng r f ps asg body fr h := by
  unfold execRng
  split
  · exact Cts.bind (callV_cts _ _ _) fun x => Cts.const _
  · exact Cts.const _

theorem execC_cts : ∀ (c : ACode) (fr : Fr) (h : Heap), Cts T fun r => execC r c fr h
  | .skip, _, _ => Cts.const _
  | .reg ops, fr, h => stepOps_cts ops fr h
  | .drw ops, fr, h => execDrw_cts ops [] fr h
  | .seq a b, fr, h => by
    simp only [execC]
    refine Cts.bind (execC_cts a fr h) fun x => ?_
    obtain ⟨e, fr', h'⟩ := x
    dsimp only
    split
    · exact execC_cts b _ _
    · exact Cts.const _
  | .cond c a b, fr, h => by
    simp only [execC]
    split
    · exact execC_cts a _ _
    · exact execC_cts b _ _
    · exact Cts.const _
  | .blk id c, fr, h => by
    simp only [execC]
    exact Cts.bind (execC_cts c fr h) fun x => Cts.const _
  | .loop c, fr, h => by
    simp only [execC]
    refine Cts.bind (execC_cts c fr h) fun x => ?_
    obtain ⟨e, fr', h'⟩ := x
    dsimp only
    split
    · exact Cts.code _ _ _
    · exact Cts.const _
  | .rngf f ps asg body, fr, h => execRng_cts _ _ _ _ _ _
  | .exit _, _, _ => Cts.const _
  | .ret, _, _ => Cts.const _
  | .keep _, _, _ => Cts.const _

theorem leave_cts (rs : List ARes) (e : Env) (u : Option V) : ∀ (ds : List Dfr) (m : Option V) (h : Heap), Cts T fun r => leave r rs e u ds m h
  | [], none, _ => Cts.const _
  | [], some _, _ => Cts.const _
  | .coll b :: ds, m, h => by
    simp only [leave]
    split
    · exact leave_cts rs e u ds m _
    · exact Cts.const _
  | .call f args :: ds, m, h => by
    simp only [leave]
    split
    · exact Cts.const _
    · refine Cts.bind (Cts.call _ _ _ _) fun x => ?_
      obtain ⟨o, m', h'⟩ := x
      dsimp only
      split
      · exact leave_cts rs e u ds m' _
      · split
        · exact leave_cts rs e u ds _ _
        · exact Cts.const _

theorem callB_cts (af : AFunc) (args : List V) (u : Option V) (h : Heap) : Cts T fun r => callB r af args u h := by
  unfold callB
  refine Cts.bind (execC_cts _ _ _) fun x => ?_
  obtain ⟨e, fr, h'⟩ := x
  dsimp only
  split
  · exact leave_cts _ _ _ _ _ _
  · exact leave_cts _ _ _ _ _ _
  · exact leave_cts _ _ _ _ _ _
  · exact Cts.const _

theorem callG_cts (f : Nat) (args : List V) (u : Option V) (h : Heap) : Cts T fun r => callG T r f args u h := by
  unfold callG
  split
  · exact Cts.const _
  · split
    · exact callB_cts _ _ _ _
    · split
      · exact Cts.bind (callB_cts _ _ _ _) fun x => Cts.const _
      · split
        · exact Cts.bind (callB_cts _ _ _ _) fun x => Cts.const _
        · exact Cts.const _

theorem eq_of_le {α : Type} {a b : Option α} (h : Le a b) (k : Le b a) : a = b := by
  cases ha : a with
  | some x => exact (h x ha).symm
  | none =>
    cases hb : b with
    | none => rfl
    | some y => rw [k y hb] at ha; cases ha

/-- A call is what the function's body gives. -/
theorem run_call (f : Nat) (args : List V) (u : Option V) (h : Heap) : (run T).call f args u h = callG T (run T) f args u h := by
  refine eq_of_le (fun y e => ?_) (fun y e => ?_)
  · obtain ⟨k, hk⟩ := pickSome_some e
    cases k with
    | zero => cases hk
    | succ k => exact callG_mono (execK_le_run T k) T f args u h y hk
  · obtain ⟨k, hk⟩ := callG_cts f args u h y e
    exact (execK_le_run T (k + 1)).call f args u h y (hk k (Nat.le_refl _))

theorem run_code (c : ACode) (fr : Fr) (h : Heap) : (run T).code c fr h = execC (run T) c fr h := by
  refine eq_of_le (fun y e => ?_) (fun y e => ?_)
  · obtain ⟨k, hk⟩ := pickSome_some e
    cases k with
    | zero => cases hk
    | succ k => exact execC_mono (execK_le_run T k) c fr h y hk
  · obtain ⟨k, hk⟩ := execC_cts c fr h y e
    exact (execK_le_run T (k + 1)).code c fr h y (hk k (Nat.le_refl _))

/-- What 'run' gives the machine gives with some fuel. -/
theorem run_call_some {f : Nat} {args : List V} {u : Option V} {h : Heap} {y : Out × Option V × Heap} (e : (run T).call f args u h = some y) :
    ∃ k, (execK T k).call f args u h = some y := pickSome_some e

end Go.A

/- The program's own code, turned into code of the machine A. -/
set_option linter.unusedVariables false
set_option linter.unusedSimpArgs false
set_option linter.unusedSectionVars false
namespace Go.A

/-- A constant that fills one cell, or a constant with cells. -/
def val1 : Value → Option V
  | .bool b => some (.bool b)
  | .int k n => some (.int k n)
  | .string s => some (.str s.data.toList)
  | .pointer none => some .nilp
  | .slice none n c => if n = 0 ∧ c = 0 then some .nils else none
  | .nilFunc => some .nilf
  | .nilIface => some .nili
  | .map none => some .nilm
  | _ => none

def vals1 : List Value → Option (List V)
  | [] => some []
  | v :: vs => (val1 v).bind fun x => (vals1 vs).bind fun xs => some (x :: xs)

def val : Value → Option V
  | .agg cs => (vals1 cs.toList).map .agg
  | v => val1 v

def opd : Operand → Option Opd
  | .tmp t => some (.t t)
  | .const v => (val v).map .c
  | .global _ => none
  | .func f => some (.f f)

def opds : List Operand → Option (List Opd)
  | [] => some []
  | x :: xs => (opd x).bind fun y => (opds xs).bind fun ys => some (y :: ys)

def opdO : Option Operand → Option (Option Opd)
  | none => some none
  | some x => (opd x).map some

section
variable (P : Program)

def sizeOf? (t : TypeId) : Option Nat := (P.info? t).map (·.size)
def bytesOf? (t : TypeId) : Option Nat := (P.info? t).map (·.bytes)
def zero? (t : TypeId) : Option V := ((P.info? t).bind (·.zero)).bind val
def zeros? (t : TypeId) : Option (List V) := (zero? P t).map (·.cells)

def isAgg? (t : TypeId) : Option Bool :=
  match P.underlying t with
  | some (.struct _) | some (.array _ _) => some true
  | some _ => some false
  | none => none

/-- How much of a value a part of a type is: 'none': one cell that is no aggregate. -/
def szOf (t : TypeId) : Option (Option Nat) :=
  match isAgg? P t with
  | some true => (sizeOf? P t).map some
  | some false => some none
  | none => none

def partsS (fields : Array Field) : List (Nat × Operand) → Option (List (Nat × Nat × Opd))
  | [] => some []
  | (i, x) :: r => match fields[i]? with
    | some f => (sizeOf? P f.type).bind fun s => (opd x).bind fun y => (partsS fields r).bind fun l => some ((f.offset, s, y) :: l)
    | none => none

def partsA (s : Nat) : List (Nat × Operand) → Option (List (Nat × Nat × Opd))
  | [] => some []
  | (i, x) :: r => (opd x).bind fun y => (partsA s r).bind fun l => some ((i * s, s, y) :: l)

mutual
/-- How the cells of a type are compared. -/
def ety : Nat → TypeId → Option (List ETy)
  | 0, _ => none
  | d + 1, t =>
    match P.underlying t with
    | some .bool => some [.bool]
    | some (.int _) => some [.int]
    | some .string => some [.str]
    | some (.struct fs) => if P.stoodInHeld t then none else etyF d fs.toList 0
    | some (.array n e) => (ety d e).bind fun l => if sizeOf? P e = some l.length then some (List.replicate n l).flatten else none
    | _ => none
def etyF : Nat → List Field → Nat → Option (List ETy)
  | 0, _, _ => none
  | _ + 1, [], _ => some []
  | d + 1, f :: fs, off => if f.name = "_" ∨ f.offset ≠ off then none else
    (ety d f.type).bind fun l => if sizeOf? P f.type = some l.length then (etyF d fs (off + l.length)).bind fun m => some (l ++ m) else none
end

def isConst : Operand → Bool
  | .const _ => true
  | _ => false

def compEq (neg : Bool) (t : TypeId) (x y : Operand) : Option POp :=
  (opd x).bind fun a => (opd y).bind fun b =>
  match P.underlying t with
  | some (.int _) => some (.bin (if neg then .neq else .eql) a b)
  | some .string => some (.bin (if neg then .neq else .eql) a b)
  | some .bool => some (.eqv neg .bool a b)
  | some (.interface _) => if isConst x || isConst y then some (.eqv neg .iface a b) else none
  | some (.pointer e) => if (sizeOf? P e).isSome then some (.eqv neg .pn a b) else none
  | some (.slice _) => some (.eqv neg .sn a b)
  | some (.map _ _) => some (.eqv neg .mn a b)
  | some (.func _ _ _) => some (.eqv neg .fn a b)
  | some (.struct _) | some (.array _ _) =>
    if P.eqGuardType P.depth t then none else (ety P 40 t).map fun l => .eqv neg (.flat l) a b
  | _ => none

def compP (o : Op) : Option POp :=
  match o with
  | .move x | .assign x => (opd x).map .mv
  | .pick c a b => (opd c).bind fun c => (opd a).bind fun a => (opd b).map fun b => .pick c a b
  | .build t ps => (zeros? P t).bind fun zs =>
    match P.underlying t with
    | some (.struct fields) => if fields.all (fun f => (sizeOf? P f.type).isSome) then (partsS P fields ps.toList).map fun l => .build zs l else none
    | some (.array _ e) => (sizeOf? P e).bind fun s => (partsA s ps.toList).map fun l => .build zs l
    | _ => none
  | .nilCheck x => (opd x).map .nilck
  | .binOp .eql t x y _ => compEq P false t x y
  | .binOp .neq t x y _ => compEq P true t x y
  | .binOp op _ x y _ => (opd x).bind fun a => (opd y).map fun b => .bin op a b
  | .unOp op _ x => (opd x).map fun a => .un op a
  | .convert src dst x => match P.underlying src, P.underlying dst with
    | some _, some (.int k) => (opd x).map fun a => .conv k a
    | _, _ => none
  | .makeInterface t x => match P.underlying t with
    | some (.interface _) => none
    | some _ => (opd x).map fun a => .mkif t a
    | none => none
  | .makeFunc fn a b => if isY fn = true then none else (opds a.toList).bind fun a => (opds b.toList).map fun b => .mkfn fn a b
  | .slice t x lo hi mx => (opd x).bind fun a => (opdO lo).bind fun l => (opdO hi).bind fun h => (opdO mx).bind fun m =>
    match P.underlying t with
    | some .string => if m.isNone then some (.slStr a l h) else none
    | some (.slice e) => (sizeOf? P e).map fun s => .slSl s a l h m
    | some (.array n e) => (sizeOf? P e).map fun s => .slArr n s a l h m
    | some (.pointer arr) => match P.underlying arr with
      | some (.array n e) => (sizeOf? P e).map fun s => .slArr n s a l h m
      | _ => none
    | _ => none
  | .fieldAddr s x f => match P.underlying s with
    | some (.struct fields) => match fields[f]? with
      | some fd => if (sizeOf? P fd.type).any (· ≠ 0) then (opd x).map fun a => .fieldA fd.offset a else none
      | none => none
    | _ => none
  | .field s x f => match P.underlying s with
    | some (.struct fields) => match fields[f]? with
      | some fd => (szOf P fd.type).bind fun z => (opd x).map fun a => .field fd.offset z a
      | none => none
    | _ => none
  | .indexAddr t x i => (opd x).bind fun a => (opd i).bind fun b => match P.underlying t with
    | some (.array n e) => (sizeOf? P e).map fun s => .idxA n s a b
    | some (.slice e) => (sizeOf? P e).map fun s => .idxS s a b
    | _ => none
  | .index t x i => (opd x).bind fun a => (opd i).bind fun b => match P.underlying t with
    | some (.array n e) => (sizeOf? P e).bind fun s => (szOf P e).map fun z => .idx n s z a b
    | some .string => some (.idxStr a b)
    | _ => none
  | .typeAssert x _ t ok => match P.underlying t with
    | some (.interface _) => none
    | some _ => (opd x).bind fun a => (zero? P t).map fun z => .asrt t z ok a
    | none => none
  | .extract x i => (opd x).map fun a => .ext a i
  | .sliceToArrayPointer arr x => match P.underlying arr with
    | some (.array n _) => if n = 0 then none else (opd x).map fun a => .s2a n a
    | _ => none
  | .call { callee := .builtin .len, args, argTypes } => match args.toList, argTypes.toList with
    | [x], [t] => match P.underlying t with
      | some .string => (opd x).map .lenT
      | some (.slice _) => (opd x).map .lenS
      | some (.array n _) => some (.lenK n)
      | _ => none
    | _, _ => none
  | .call { callee := .builtin .min, args, .. } => (opds args.toList).map fun l => .mm false l
  | .call { callee := .builtin .max, args, .. } => (opds args.toList).map fun l => .mm true l
  | _ => none

/-- A conversion of a string: to a string. -/
def compS (o : Op) : Option POp :=
  match o with
  | .convert src dst x => match P.underlying src, P.underlying dst with
    | some .string, some .string => (opd x).map .retag
    | _, _ => none
  | _ => none

def compR (o : Op) : Option ROp :=
  match o with
  | .load t a => (szOf P t).bind fun z => (opd a).map fun a => match z with | none => .ld a | some n => .ldN n a
  | .convert src dst x => match P.underlying src, P.underlying dst with
    | some (.slice e), some .string => match P.underlying e with
      | some (.int .u8) => (opd x).map .b2s
      | _ => none
    | _, _ => none
  | _ => none

def compN (o : Op) : Option NOp :=
  match o with
  | .alloc t => (zeros? P t).map .alloc
  | .box _ x => (opd x).map .box
  | .buildSlice t len ps => match P.underlying t with
    | some (.slice e) => (sizeOf? P e).bind fun s => (zeros? P e).bind fun zs => if s = 0 ∨ len * s > 16777216 then none else
      (partsA s ps.toList).map fun l => .bsl len s zs l
    | _ => none
  | .makeSlice t l c => match P.underlying t with
    | some (.slice e) => (sizeOf? P e).bind fun s => (bytesOf? P e).bind fun b => (zeros? P e).bind fun zs => if s = 0 then none else
      (opd l).bind fun l => (opd c).map fun c => .mksl s b zs l c
    | _ => none
  | .convert src dst x => match P.underlying src, P.underlying dst with
    | some .string, some (.slice e) => match P.underlying e with
      | some (.int .u8) => (opd x).map .s2b
      | _ => none
    | _, _ => none
  | _ => none

def compL (o : Op) : Option LOp :=
  match o with
  | .store t a x => (szOf P t).bind fun z => (opd a).bind fun a => (opd x).bind fun x => match z with | none => (if sizeOf? P t = some 1 then some (.st a x) else none) | some n => some (.stN n a x)
  | .call { callee := .builtin .append, args, argTypes } => match args.toList, argTypes.toList with
    | [s, x], t :: u :: _ => match P.underlying t, P.underlying u with
      | some (.slice e), some (.slice _) | some (.slice e), some .string => (sizeOf? P e).bind fun z => (bytesOf? P e).bind fun b => if (zeros? P e).map List.length = some z then (opd s).bind fun s => (opd x).map fun x => .app z b s x else none
      | _, _ => none
    | _, _ => none
  | .call { callee := .builtin .copy, args, argTypes } => match args.toList, argTypes.toList with
    | [d, s], t :: _ => match P.underlying t with
      | some (.slice e) => (sizeOf? P e).bind fun z => (opd d).bind fun d => (opd s).map fun s => .cpy z d s
      | _ => none
    | _, _ => none
  | .convert src dst x => if src = dst then match P.underlying dst with
    | some (.slice e) => match P.underlying e with
      | some (.int .u8) => (opd x).map .mark
      | _ => none
    | _ => none
    else none
  | _ => none

def calOf : Operand → Option Cal
  | .func f => some (.st f)
  | .tmp t => some (.dyn (.t t))
  | _ => none

def compX (o : Op) : Option AOp :=
  match o with
  | .call { callee := .value f, args, .. } => (calOf f).bind fun c => (opds args.toList).map fun l => .call c l
  | .defer { callee := .value f, args, .. } => (calOf f).bind fun c => (opds args.toList).map fun l => .dfr c l
  | .panic x => (opd x).map .pan
  | .call { callee := .builtin .recover, .. } => some .rcv
  | _ => none

def compOp (o : Op) : Option AOp :=
  match compP P o with
  | some q => some (.p q)
  | none => match compR P o with
    | some q => some (.r q)
    | none => match compN P o with
      | some q => some (.n q)
      | none => match compS P o with
        | some q => some (.p q)
        | none => match compL P o with
          | some q => some (.l q)
          | none => compX o

def compG (ops : Array Oper) : Option (Nat × Bool) → Option (Option (Nat × Bool))
  | none => some none
  | some (j, w) => match (ops[j]?).bind (·.dst) with
    | some t => some (some (t, w))
    | none => none

def compOper (ops : Array Oper) (o : Oper) : Option AOper :=
  (compOp P o.op).bind fun q => (compG ops o.guard).map fun g => ⟨o.dst, q, g⟩

def compOpers (ops : Array Oper) : List Oper → Option (List AOper)
  | [] => some []
  | o :: os => (compOper P ops o).bind fun q => (compOpers ops os).bind fun qs => some (q :: qs)

/-- The operations ahead of which each must be. -/
def pre (b : Array Nat) (i j : Nat) : Bool := (b.getD i 0).testBit j

/-- An order in which what is loud comes as early as it may. -/
def canon (b : Array Nat) (loud : List Bool) : List Nat :=
  let n := loud.length
  let louds := (List.range n).filter fun i => loud.getD i false
  let go := louds.foldl (fun (acc : List Nat) l =>
    acc ++ ((List.range n).filter fun i => !acc.contains i && (pre b l i || i == l)).filter (· != l) ++ [l]) []
  go ++ (List.range n).filter fun i => !go.contains i

def Opd.tm : Opd → List Nat
  | .t n => [n]
  | _ => []

/-- The operands of an operation. -/
def POp.os : POp → List Opd
  | .mv x => [x]
  | .pick c a b => [c, a, b]
  | .build _ parts => parts.map (·.2.2)
  | .nilck x => [x]
  | .bin _ x y => [x, y]
  | .eqv _ _ x y => [x, y]
  | .un _ x => [x]
  | .conv _ x => [x]
  | .retag x => [x]
  | .mkif _ x => [x]
  | .mkfn _ a b => a ++ b
  | .slStr x lo hi => x :: (lo.toList ++ hi.toList)
  | .slSl _ x lo hi mx => x :: (lo.toList ++ (hi.toList ++ mx.toList))
  | .slArr _ _ x lo hi mx => x :: (lo.toList ++ (hi.toList ++ mx.toList))
  | .fieldA _ x => [x]
  | .field _ _ x => [x]
  | .idxA _ _ x i => [x, i]
  | .idxS _ x i => [x, i]
  | .idx _ _ _ x i => [x, i]
  | .idxStr x i => [x, i]
  | .ext x _ => [x]
  | .lenS x => [x]
  | .lenT x => [x]
  | .lenK _ => []
  | .mm _ xs => xs
  | .asrt _ _ _ x => [x]
  | .s2a _ x => [x]

def ROp.os : ROp → List Opd
  | .ld x => [x]
  | .ldN _ x => [x]
  | .b2s x => [x]

def NOp.os : NOp → List Opd
  | .alloc _ => []
  | .box x => [x]
  | .bsl _ _ _ parts => parts.map (·.2.2)
  | .mksl _ _ _ l c => [l, c]
  | .s2b x => [x]

def LOp.os : LOp → List Opd
  | .st a x => [a, x]
  | .stN _ a x => [a, x]
  | .app _ _ s x => [s, x]
  | .cpy _ d s => [d, s]
  | .mark x => [x]

def Cal.os : Cal → List Opd
  | .st _ => []
  | .dyn x => [x]

def AOp.os : AOp → List Opd
  | .p q => q.os
  | .r q => q.os
  | .n q => q.os
  | .l q => q.os
  | .call c args => c.os ++ args
  | .dfr c args => c.os ++ args
  | .pan x => [x]
  | .rcv => []

/-- The temporaries that an operation looks at. -/
def AOper.tms (o : AOper) : List Nat := (o.o.os.map Opd.tm).flatten ++ (match o.g with | some (t, _) => [t] | none => [])

def loudAt (l : List AOper) (order : List Nat) (k : Nat) : Bool := (l.getD (order.getD k 0) default).o.loud

/-- The operations in one order; for each the numbers of the loud ones ahead of it that need not be ahead of it, and whether all others are behind or ahead of it. -/
def drwOf (b : Array Nat) (l : List AOper) (order : List Nat) : List (AOper × List Nat × Bool) :=
  (List.range order.length).map fun k =>
    (l.getD (order.getD k 0) default,
      ((List.range k).filter (loudAt l order)).zipIdx.filterMap (fun (y, c) => if pre b (order.getD k 0) (order.getD y 0) then none else some c),
      order.all fun j => j == order.getD k 0 || pre b (order.getD k 0) j || pre b j (order.getD k 0))

/-- Whether the order serves for all orders: see the theorem on regions whose order is open. -/
structure DrwChk (b : Array Nat) (ops : Array Oper) (l : List AOper) (order : List Nat) : Prop where
  len : order.length = ops.size
  all : ∀ i ∈ List.range ops.size, i ∈ order
  inj : ∀ i ∈ List.range ops.size, ∀ j ∈ List.range ops.size, order.getD i 0 = order.getD j 0 → i = j
  low : ∀ i ∈ List.range ops.size, order.getD i 0 < ops.size
  edge : ∀ i ∈ List.range ops.size, ∀ o, ops[i]? = some o → ∀ e ∈ o.after.toList, Region.binds .any e = true → e.on < ops.size ∧ pre b i e.on = true
  sound : ∀ i ∈ List.range ops.size, ∀ j ∈ List.range ops.size, pre b i j = true → ∃ o, ops[i]? = some o ∧ ∃ e ∈ o.after.toList, Region.binds .any e = true ∧ (e.on = j ∨ pre b e.on j = true)
  resp : ∀ k ∈ List.range ops.size, ∀ j ∈ List.range ops.size, pre b (order.getD k 0) j = true → j ∈ order.take k
  loud : ∀ k ∈ List.range ops.size, loudAt l order k = true → ∀ j ∈ order.take k, pre b (order.getD k 0) j = true
  tmp : ∀ i ∈ List.range ops.size, ∀ d, (l.getD i default).d = some d → d ∉ (l.getD i default).tms ∧ ∀ j ∈ List.range ops.size, j = i ∨ ((l.getD j default).d ≠ some d ∧ (d ∉ (l.getD j default).tms ∨ pre b j i = true ∨ pre b i j = true))

def drwOk (b : Array Nat) (ops : Array Oper) (l : List AOper) (order : List Nat) : Bool :=
  let n := List.range ops.size
  (order.length == ops.size) && n.all (fun i => order.contains i) &&
  n.all (fun i => n.all fun j => i == j || order.getD i 0 != order.getD j 0) && n.all (fun i => decide (order.getD i 0 < ops.size)) &&
  n.all (fun i => match ops[i]? with | some o => o.after.toList.all (fun e => !Region.binds .any e || (e.on < ops.size && pre b i e.on)) | none => true) &&
  n.all (fun i => n.all fun j => !pre b i j || (match ops[i]? with | some o => o.after.toList.any (fun e => Region.binds .any e && (e.on == j || pre b e.on j)) | none => false)) &&
  n.all (fun k => n.all fun j => !pre b (order.getD k 0) j || (order.take k).contains j) &&
  n.all (fun k => !loudAt l order k || (order.take k).all fun j => pre b (order.getD k 0) j) &&
  n.all (fun i => match (l.getD i default).d with
    | none => true
    | some d => !(l.getD i default).tms.contains d && n.all fun j => j == i || ((l.getD j default).d != some d && (!(l.getD j default).tms.contains d || (pre b j i || pre b i j))))

theorem drwOk_chk {b : Array Nat} {ops : Array Oper} {l : List AOper} {order : List Nat} (h : drwOk b ops l order = true) : DrwChk b ops l order := by
  simp only [drwOk, Bool.and_eq_true, List.all_eq_true, beq_iff_eq] at h
  obtain ⟨⟨⟨⟨⟨⟨⟨⟨h1, h2⟩, h8⟩, h9⟩, h3⟩, h4⟩, h5⟩, h6⟩, h7⟩ := h
  refine ⟨h1, fun i hi => by simpa using h2 i hi, fun i hi j hj e => ?_, fun i hi => of_decide_eq_true (h9 i hi), fun i hi o ho e he hb => ?_, fun i hi j hj hp => ?_, fun k hk j hj hp => ?_, fun k hk hl j hj => ?_, fun i hi d hd => ?_⟩
  · have := h8 i hi j hj
    rw [e] at this
    simpa using this
  · have := h3 i hi
    rw [ho] at this
    simp only [List.all_eq_true] at this
    have := this e he
    simpa [hb] using this
  · have := h4 i hi j hj
    simp only [hp, Bool.not_true, Bool.false_or] at this
    split at this
    · rename_i o ho
      obtain ⟨e, he, h8⟩ := List.any_eq_true.1 this
      exact ⟨o, ho, e, he, by simpa using h8⟩
    · cases this
  · have := h5 k hk j hj
    simp only [hp, Bool.not_true, Bool.false_or] at this
    simpa using this
  · have := h6 k hk
    simp only [hl, Bool.not_true, Bool.false_or, List.all_eq_true] at this
    exact this j hj
  · have := h7 i hi
    rw [hd] at this
    simp only [Bool.and_eq_true, List.all_eq_true] at this
    refine ⟨by simpa using this.1, fun j hj => ?_⟩
    have h8 := this.2 j hj
    simp only [Bool.or_eq_true, beq_iff_eq, Bool.and_eq_true, bne_iff_ne, ne_eq, Bool.not_eq_true', List.contains_eq_mem, decide_eq_false_iff_not] at h8
    exact h8

def compC : Code → Option ACode
  | .skip => some .skip
  | .region _ ops draw =>
    (compOpers P ops ops.toList).bind fun l =>
      if draw then
        let b := Region.before ops
        let order := canon b (l.map (·.o.loud))
        if drwOk b ops l order = true then some (.drw (drwOf b l order)) else none
      else some (.reg l)
  | .seq a b => (compC a).bind fun x => (compC b).bind fun y => some (.seq x y)
  | .cond c a b => (opd c).bind fun q => (compC a).bind fun x => (compC b).bind fun y => some (.cond q x y)
  | .block id c => (compC c).bind fun x => some (.blk id x)
  | .loop c => (compC c).bind fun x => some (.loop x)
  | .rangeFunc f ps a b => (opd f).bind fun q => (compC a).bind fun x => (compC b).bind fun y => some (.rngf q ps.toList x y)
  | .exit id => some (.exit id)
  | .ret => some .ret
  | _ => none

/-- Every temporary that the code writes is below n. -/
def dstOk (n : Nat) : Code → Bool
  | .region _ ops _ => ops.toList.all fun o => match o.dst with | some d => d < n | none => true
  | .seq a b => dstOk n a && dstOk n b
  | .cond _ a b => dstOk n a && dstOk n b
  | .block _ c => dstOk n c
  | .loop c => dstOk n c
  | .rangeFunc _ ps a b => ps.toList.all (fun d => d < n) && (dstOk n a && dstOk n b)
  | _ => true

def compRes : List ResultVar → Option (List ARes)
  | [] => some []
  | .tmp t :: r => (compRes r).bind fun l => some (.t t :: l)
  | .cell a t :: r => (szOf P t).bind fun z => (compRes r).bind fun l => some (.cell a z :: l)

def compF (f : Func) (gc : Nat) : Option AFunc :=
  match f.body with
  | none => none
  | some c => if dstOk f.ntmps c = true then (compC P c).bind fun a => (compRes P f.results.toList).bind fun r => some ⟨r, a, gc⟩ else none
end

/-- The code without its marks of what is kept. -/
def erase : ACode → ACode
  | .seq (.keep _) b => erase b
  | .seq a b => .seq (erase a) (erase b)
  | .cond c a b => .cond c (erase a) (erase b)
  | .blk id c => .blk id (erase c)
  | .loop c => .loop (erase c)
  | .rngf f ps a b => .rngf f ps (erase a) (erase b)
  | c => c

end Go.A

/- How the machine A stands to the real one: values, memory, what a step leaves alone. -/
set_option linter.unusedVariables false
set_option linter.unusedSimpArgs false
set_option linter.unusedSectionVars false
namespace Go.A

/-- Where a block of A lies: in which block, from which cell on, how it may be used, and how many cells that block has. -/
structure BI where
  blk : Nat
  off : Nat
  md : Md
  csz : Nat

abbrev Map := Nat → Option BI

def SlOk (bi : BI) (e o c o' cc : Nat) : Prop :=
  match bi.md with
  | .ex => cc = c ∧ o' = bi.off + o
  | .gr e' => cc = c ∨ (e = e' ∧ o' + cc * e ≤ bi.csz)
  | .ro => True

inductive VRel (β : Map) : V → Value → Prop where
  | undef (v : Value) : VRel β .undef v
  | int (k : IntKind) (n : Int) : VRel β (.int k n) (.int k n)
  | bool (b : Bool) : VRel β (.bool b) (.bool b)
  | str (s : ByteArray) : VRel β (.str s.data.toList) (.string s)
  | ptr {b o : Nat} {bi : BI} (h : β b = some bi) : VRel β (.ptr b o) (.pointer (some ⟨bi.blk, bi.off + o, none⟩))
  | nilp : VRel β .nilp (.pointer none)
  | sl {e b o n c o' cc : Nat} {bi : BI} (h : β b = some bi) (hn : n ≤ c) (hc : c ≤ cc) (ho : c ≠ 0 → o' = bi.off + o) (hs : SlOk bi e o c o' cc) :
      VRel β (.sl e b o n c) (.slice (some ⟨bi.blk, o', none⟩) n cc)
  | nils (a : Option Addr) : VRel β .nils (.slice a 0 0)
  | agg {xs : List V} {ys : Array Value} (hl : xs.length = ys.size) (h : ∀ (i : Nat) (v : V) (v' : Value), xs[i]? = some v → ys[i]? = some v' → VRel β v v') :
      VRel β (.agg xs) (.agg ys)
  | tup {xs : List V} {ys : Array Value} (hl : xs.length = ys.size) (h : ∀ (i : Nat) (v : V) (v' : Value), xs[i]? = some v → ys[i]? = some v' → VRel β v v') :
      VRel β (.tup xs) (.tuple ys)
  | fn {f : Fn} {xs zs : List V} {ys us : Array Value} (hl : xs.length = ys.size) (h : ∀ (i : Nat) (v : V) (v' : Value), xs[i]? = some v → ys[i]? = some v' → VRel β v v')
      (kl : zs.length = us.size) (k : ∀ (i : Nat) (v : V) (v' : Value), zs[i]? = some v → us[i]? = some v' → VRel β v v') (hy : isY f = false) :
      VRel β (.fn f xs zs) (.func f ys us)
  | yld {l : Nat} {bi : BI} (h : β l = some bi) : VRel β (.fn (.yield l) [] []) (.func (.yield bi.blk) #[] #[])
  | nilf : VRel β .nilf .nilFunc
  | ifc {t : Nat} {v : V} {v' : Value} (h : VRel β v v') : VRel β (.ifc t v) (.iface t v')
  | nili : VRel β .nili .nilIface
  | nilm : VRel β .nilm (.map none)

/-- Two rows of values. -/
def LRel (β : Map) (xs : List V) (ys : List Value) : Prop :=
  xs.length = ys.length ∧ ∀ (i : Nat) (v : V) (v' : Value), xs[i]? = some v → ys[i]? = some v' → VRel β v v'

def Map.le (β β' : Map) : Prop := ∀ b bi, β b = some bi → β' b = some bi

theorem Map.le.refl (β : Map) : β.le β := fun _ _ h => h
theorem Map.le.trans {a b c : Map} (h : a.le b) (k : b.le c) : a.le c := fun _ _ e => k _ _ (h _ _ e)

theorem VRel.mono {β β' : Map} (h : β.le β') {v : V} {v' : Value} (r : VRel β v v') : VRel β' v v' := by
  induction r with
  | undef v => exact .undef v
  | int k n => exact .int k n
  | bool b => exact .bool b
  | str s => exact .str s
  | ptr hb => exact .ptr (h _ _ hb)
  | nilp => exact .nilp
  | sl hb hn hc ho hs => exact .sl (h _ _ hb) hn hc ho hs
  | nils a => exact .nils a
  | agg hl _ ih => exact .agg hl ih
  | tup hl _ ih => exact .tup hl ih
  | fn hl _ kl _ hy ih ik => exact .fn hl ih kl ik hy
  | yld hb => exact .yld (h _ _ hb)
  | nilf => exact .nilf
  | ifc _ ih => exact .ifc ih
  | nili => exact .nili
  | nilm => exact .nilm

theorem LRel.mono {β β' : Map} (h : β.le β') {xs : List V} {ys : List Value} (r : LRel β xs ys) : LRel β' xs ys :=
  ⟨r.1, fun i v v' a b => (r.2 i v v' a b).mono h⟩

section
variable {β : Map}

theorem LRel.nil : LRel β [] [] := ⟨rfl, fun i v v' h => by simp at h⟩

theorem LRel.cons {x : V} {y : Value} {xs : List V} {ys : List Value} (h : VRel β x y) (r : LRel β xs ys) : LRel β (x :: xs) (y :: ys) := by
  refine ⟨by simp [r.1], fun i v v' a b => ?_⟩
  cases i with
  | zero => simp at a b; subst a; subst b; exact h
  | succ i => simp at a b; exact r.2 i v v' a b

theorem LRel.inv_nil {ys : List Value} (r : LRel β [] ys) : ys = [] := by
  exact List.eq_nil_of_length_eq_zero r.1.symm

theorem LRel.inv_cons {x : V} {xs : List V} {ys : List Value} (r : LRel β (x :: xs) ys) : ∃ y ys', ys = y :: ys' ∧ VRel β x y ∧ LRel β xs ys' := by
  cases ys with
  | nil => have := r.1; simp at this
  | cons y ys => exact ⟨y, ys, rfl, r.2 0 x y rfl rfl, by have := r.1; simpa using this, fun i v v' a b => r.2 (i + 1) v v' (by simpa using a) (by simpa using b)⟩

theorem LRel.append {xs us : List V} {ys ws : List Value} (r : LRel β xs ys) (k : LRel β us ws) : LRel β (xs ++ us) (ys ++ ws) := by
  induction xs generalizing ys with
  | nil => rw [r.inv_nil]; exact k
  | cons x xs ih => obtain ⟨y, ys', rfl, hx, hr⟩ := r.inv_cons; exact .cons hx (ih hr)

theorem LRel.take {xs : List V} {ys : List Value} (r : LRel β xs ys) (n : Nat) : LRel β (xs.take n) (ys.take n) := by
  refine ⟨by simp [r.1], fun i v v' a b => ?_⟩
  rw [List.getElem?_take] at a b
  split at a
  · rename_i hi; rw [if_pos hi] at b; exact r.2 i v v' a b
  · cases a

theorem LRel.drop {xs : List V} {ys : List Value} (r : LRel β xs ys) (n : Nat) : LRel β (xs.drop n) (ys.drop n) := by
  refine ⟨by simp [r.1], fun i v v' a b => ?_⟩
  rw [List.getElem?_drop] at a b
  exact r.2 _ v v' a b

theorem LRel.flatten {n : Nat} {xs : List V} {ys : List Value} (r : LRel β xs ys) : LRel β (List.replicate n xs).flatten (List.replicate n ys).flatten := by
  induction n with
  | zero => exact .nil
  | succ n ih => simp only [List.replicate_succ, List.flatten_cons]; exact r.append ih

theorem LRel.get {xs : List V} {ys : List Value} (r : LRel β xs ys) {i : Nat} {v : V} (h : xs[i]? = some v) : ∃ v', ys[i]? = some v' ∧ VRel β v v' := by
  have hi : i < ys.length := by rw [← r.1]; exact (List.getElem?_eq_some_iff.1 h).1
  exact ⟨ys[i], List.getElem?_eq_getElem hi, r.2 i v _ h (List.getElem?_eq_getElem hi)⟩

theorem VRel.agg' {xs : List V} {ys : Array Value} (r : LRel β xs ys.toList) : VRel β (.agg xs) (.agg ys) :=
  .agg (by simpa using r.1) fun i v v' a b => r.2 i v v' a (by simpa using b)

theorem VRel.tup' {xs : List V} {ys : Array Value} (r : LRel β xs ys.toList) : VRel β (.tup xs) (.tuple ys) :=
  .tup (by simpa using r.1) fun i v v' a b => r.2 i v v' a (by simpa using b)

theorem VRel.fn' {f : Fn} {xs zs : List V} {ys us : Array Value} (r : LRel β xs ys.toList) (k : LRel β zs us.toList) (hy : isY f = false) : VRel β (.fn f xs zs) (.func f ys us) :=
  .fn (by simpa using r.1) (fun i v v' a b => r.2 i v v' a (by simpa using b)) (by simpa using k.1) (fun i v v' a b => k.2 i v v' a (by simpa using b)) hy

theorem VRel.agg_inv {xs : List V} {w : Value} (r : VRel β (.agg xs) w) : ∃ ys : Array Value, w = .agg ys ∧ LRel β xs ys.toList := by
  cases r with
  | agg hl h => exact ⟨_, rfl, by simpa using hl, fun i v v' a b => h i v v' a (by simpa using b)⟩

theorem VRel.tup_inv {xs : List V} {w : Value} (r : VRel β (.tup xs) w) : ∃ ys : Array Value, w = .tuple ys ∧ LRel β xs ys.toList := by
  cases r with
  | tup hl h => exact ⟨_, rfl, by simpa using hl, fun i v v' a b => h i v v' a (by simpa using b)⟩

theorem VRel.fn_inv {f : Fn} {xs zs : List V} {w : Value} (r : VRel β (.fn f xs zs) w) : ∃ (g : Fn) (ys us : Array Value), w = .func g ys us ∧ LRel β xs ys.toList ∧ LRel β zs us.toList ∧
    ((g = f ∧ isY f = false) ∨ ∃ l bi, f = .yield l ∧ β l = some bi ∧ g = .yield bi.blk) := by
  cases r with
  | fn hl h kl k hy => exact ⟨_, _, _, rfl, ⟨by simpa using hl, fun i v v' a b => h i v v' a (by simpa using b)⟩, ⟨by simpa using kl, fun i v v' a b => k i v v' a (by simpa using b)⟩, .inl ⟨rfl, hy⟩⟩
  | yld h => exact ⟨_, _, _, rfl, .nil, .nil, .inr ⟨_, _, rfl, h, rfl⟩⟩

theorem VRel.ifc_inv {t : Nat} {v : V} {w : Value} (r : VRel β (.ifc t v) w) : ∃ v', w = .iface t v' ∧ VRel β v v' := by cases r with | ifc h => exact ⟨_, rfl, h⟩
theorem VRel.nils_inv {w : Value} (r : VRel β .nils w) : ∃ a, w = .slice a 0 0 := by cases r; exact ⟨_, rfl⟩
theorem VRel.nili_inv {w : Value} (r : VRel β .nili w) : w = .nilIface := by cases r; rfl
theorem VRel.nilp_inv {w : Value} (r : VRel β .nilp w) : w = .pointer none := by cases r; rfl
theorem VRel.nilf_inv {w : Value} (r : VRel β .nilf w) : w = .nilFunc := by cases r; rfl
theorem VRel.nilm_inv {w : Value} (r : VRel β .nilm w) : w = .map none := by cases r; rfl
theorem VRel.int_inv {k : IntKind} {n : Int} {w : Value} (r : VRel β (.int k n) w) : w = .int k n := by cases r; rfl
theorem VRel.bool_inv {b : Bool} {w : Value} (r : VRel β (.bool b) w) : w = .bool b := by cases r; rfl
theorem VRel.str_inv {s : List UInt8} {w : Value} (r : VRel β (.str s) w) : ∃ z : ByteArray, w = .string z ∧ z.data.toList = s := by cases r; exact ⟨_, rfl, rfl⟩
theorem VRel.ptr_inv {b o : Nat} {w : Value} (r : VRel β (.ptr b o) w) : ∃ bi, β b = some bi ∧ w = .pointer (some ⟨bi.blk, bi.off + o, none⟩) := by
  cases r with | ptr h => exact ⟨_, h, rfl⟩
theorem VRel.sl_inv {e b o n c : Nat} {w : Value} (r : VRel β (.sl e b o n c) w) :
    ∃ bi o' cc, β b = some bi ∧ w = .slice (some ⟨bi.blk, o', none⟩) n cc ∧ n ≤ c ∧ c ≤ cc ∧ (c ≠ 0 → o' = bi.off + o) ∧ SlOk bi e o c o' cc := by
  cases r with | sl h hn hc ho hs => exact ⟨_, _, _, h, rfl, hn, hc, ho, hs⟩

/-- The cells of a value. -/
theorem VRel.cells {v : V} {w : Value} (r : VRel β v w) (hv : ∀ vs, v ≠ .tup vs) (hu : v ≠ .undef) : LRel β v.cells w.cells.toList := by
  cases r with
  | undef => exact absurd rfl hu
  | agg hl h => exact ⟨by simpa [V.cells, Value.cells] using hl, fun i v v' a b => h i v v' a (by simpa [Value.cells] using b)⟩
  | tup _ _ => exact absurd rfl (hv _)
  | _ => exact LRel.cons (by constructor <;> assumption) LRel.nil
end

theorem V.ok_ne {v : V} (h : v.ok = true) : (∀ vs, v ≠ .tup vs) ∧ v ≠ .undef := by
  cases v <;> simp_all [V.ok]

/-- How the state of a loop over a function stands to the machine's. -/
def LSt (st : Nat) (pend : Option Ex) (L : Loop) : Prop :=
  match st with
  | 0 => L.state = .ready ∧ L.pending = none
  | 1 => L.state = .busy ∧ L.pending = none
  | 2 => L.state = .done ∧ (match pend with
      | some (.exit id) => L.pending = some (.exit id)
      | some .ret => L.pending = some .ret
      | _ => False)
  | _ => True

/-- How a block of A stands to a block of memory. -/
def BRel (P : Program) (CR : Nat → Code → ACode → Prop) (β : Map) (bi : BI) : Blk → Obj → Prop
  | .dead, _ => True
  | .cells m cs, o => ∃ c e fr, o = .cells c e fr ∧ c.size = bi.csz ∧ bi.off + cs.length ≤ c.size ∧
      (∀ (i : Nat) (v : V) (v' : Value), cs[i]? = some v → c[bi.off + i]? = some v' → VRel β v v') ∧
      (m ≠ .ro → bi.md = m ∧ (fr.1 = fr.2 ∨ bi.csz ≤ fr.1))
  | .dfl, o => o = .deferred (some [])
  | .loop st pend env ps asg body, o => ∃ L : Loop, o = .loop L ∧ L.params.toList = ps ∧ CR L.tmps.size L.assign asg ∧ CR L.tmps.size L.body body ∧ (∀ p ∈ ps, p < L.tmps.size) ∧ (∃ fn, P.funcs[L.fn]? = some fn) ∧
      (∀ i, VRel β (get env i) (L.tmps.getD i Go.undef)) ∧
      LSt st pend L

def Blk.live : Blk → Bool
  | .dead => false
  | _ => true

/-- A block that may be written. -/
def Blk.wr : Blk → Bool
  | .dead => false
  | .cells .ro _ => false
  | _ => true

theorem Blk.wr_live {b : Blk} (h : b.wr = true) : b.live = true := by cases b <;> simp_all [Blk.wr, Blk.live]

/-- How the memory of A stands to memory. -/
structure HRel (P : Program) (CR : Nat → Code → ACode → Prop) (β : Map) (h : Heap) (w : World) : Prop where
  dom : ∀ b bi, β b = some bi → b < h.length ∧ bi.blk < w.heap.size
  blk : ∀ b bi blk, β b = some bi → h[b]? = some blk → blk.live = true → ∃ o, w.heap[bi.blk]? = some o ∧ BRel P CR β bi blk o
  uniq : ∀ b b' bi bi' blk blk', b ≠ b' → β b = some bi → β b' = some bi' → h[b]? = some blk → h[b']? = some blk' → blk.wr = true → blk'.live = true → bi.blk ≠ bi'.blk

/-- Block B of memory may be written by what runs in h. -/
def Wr (β : Map) (h : Heap) (B : Nat) : Prop := ∃ b bi blk, β b = some bi ∧ h[b]? = some blk ∧ blk.wr = true ∧ bi.blk = B

/-- Each block that lives lies somewhere. -/
def Tot (β : Map) (h : Heap) : Prop := ∀ (b : Nat) (blk : Blk), h[b]? = some blk → blk.live = true → ∃ bi, β b = some bi

/-- What a step does to memory. -/
structure Stp0 (β : Map) (h : Heap) (w : World) (β' : Map) (h' : Heap) (w' : World) : Prop where
  ext : β.le β'
  os : w'.os = w.os
  tape : w'.tape = w.tape
  output : w'.output = w.output
  size : w.heap.size ≤ w'.heap.size
  hsize : h.length ≤ h'.length
  old : ∀ b bi, b < h.length → β' b = some bi → β b = some bi
  keep : ∀ B, B < w.heap.size → ¬ Wr β h B → w'.heap[B]? = w.heap[B]?
  img : ∀ B, Wr β' h' B → Wr β h B ∨ w.heap.size ≤ B
  fresh : ∀ b bi, β' b = some bi → β b = some bi ∨ Wr β h bi.blk ∨ w.heap.size ≤ bi.blk
  alive : ∀ (b : Nat) (blk' : Blk), b < h.length → h'[b]? = some blk' → blk'.live = true → ∃ blk, h[b]? = some blk ∧ blk.live = true

structure Stp (β : Map) (h : Heap) (w : World) (β' : Map) (h' : Heap) (w' : World) : Prop extends Stp0 β h w β' h' w' where
  tot : Tot β h → Tot β' h'

theorem Stp.refl (β : Map) (h : Heap) (w : World) : Stp β h w β h w :=
  ⟨⟨Map.le.refl β, rfl, rfl, rfl, Nat.le_refl _, Nat.le_refl _, fun _ _ _ e => e, fun _ _ _ => rfl, fun _ e => .inl e, fun _ _ e => .inl e, fun _ _ _ e l => ⟨_, e, l⟩⟩, id⟩

theorem Stp0.trans {β β1 β2 : Map} {h h1 h2 : Heap} {w w1 w2 : World} (a : Stp0 β h w β1 h1 w1) (b : Stp0 β1 h1 w1 β2 h2 w2) : Stp0 β h w β2 h2 w2 where
  ext := a.ext.trans b.ext
  os := b.os.trans a.os
  tape := b.tape.trans a.tape
  output := b.output.trans a.output
  size := Nat.le_trans a.size b.size
  hsize := Nat.le_trans a.hsize b.hsize
  old := fun c bi hc e => a.old c bi hc (b.old c bi (Nat.lt_of_lt_of_le hc a.hsize) e)
  keep := fun B hB hn => by
    rw [b.keep B (Nat.lt_of_lt_of_le hB a.size) (fun hw => ?_), a.keep B hB hn]
    rcases a.img B hw with h | h
    · exact hn h
    · omega
  img := fun B hw => by
    rcases b.img B hw with h | h
    · exact a.img B h
    · exact .inr (Nat.le_trans a.size h)
  fresh := fun c bi e => by
    rcases b.fresh c bi e with k | k | k
    · exact a.fresh c bi k
    · exact .inr (a.img _ k)
    · exact .inr (.inr (Nat.le_trans a.size k))
  alive := fun c blk' hc e l => by
    obtain ⟨x, e1, l1⟩ := b.alive c blk' (Nat.lt_of_lt_of_le hc a.hsize) e l
    exact a.alive c x hc e1 l1

theorem Stp.trans {β β1 β2 : Map} {h h1 h2 : Heap} {w w1 w2 : World} (a : Stp β h w β1 h1 w1) (b : Stp β1 h1 w1 β2 h2 w2) : Stp β h w β2 h2 w2 :=
  ⟨a.toStp0.trans b.toStp0, fun t => b.tot (a.tot t)⟩

end Go.A

/- Each operation that looks at its operands alone does in the machine what it does in A. -/
set_option linter.unusedVariables false
set_option linter.unusedSimpArgs false
set_option linter.unusedSectionVars false
namespace Go.A

variable {P : Program} {β : Map}

theorem val1_rel {v : Value} {x : V} (h : val1 v = some x) : VRel β x v := by
  unfold val1 at h
  split at h
  all_goals first
    | (cases h; constructor; done)
    | (split at h
       · rename_i hc; obtain ⟨rfl, rfl⟩ := hc; cases h; exact .nils none
       · cases h)
    | cases h

theorem vals1_rel : ∀ {vs : List Value} {xs : List V}, vals1 vs = some xs → LRel β xs vs
  | [], xs, h => by simp [vals1] at h; subst h; exact .nil
  | v :: vs, xs, h => by
    simp only [vals1, Option.bind_eq_some_iff] at h
    obtain ⟨x, hx, ys, hy, e⟩ := h
    cases e
    exact .cons (val1_rel hx) (vals1_rel hy)

theorem val_rel {v : Value} {x : V} (h : val v = some x) : VRel β x v := by
  unfold val at h
  split at h
  · rename_i cs
    simp only [Option.map_eq_some_iff] at h
    obtain ⟨xs, hx, rfl⟩ := h
    exact .agg' (vals1_rel hx)
  · exact val1_rel h

theorem val_notup {v : Value} {x : V} (h : val v = some x) : (∀ vs, x ≠ .tup vs) ∧ x ≠ .undef := by
  unfold val at h
  split at h
  · simp only [Option.map_eq_some_iff] at h
    obtain ⟨xs, hx, rfl⟩ := h
    exact ⟨fun _ => by simp, by simp⟩
  · unfold val1 at h
    split at h
    all_goals first
      | (cases h; exact ⟨fun _ => by simp, by simp⟩)
      | (split at h
         · cases h; exact ⟨fun _ => by simp, by simp⟩
         · cases h)
      | cases h

/-- The temporaries. -/
def ERel (β : Map) (e : Env) (tmps : Array Value) : Prop := ∀ i, VRel β (get e i) (tmps.getD i Go.undef)

theorem ERel.mono {β' : Map} (h : β.le β') {e : Env} {tmps : Array Value} (r : ERel β e tmps) : ERel β' e tmps := fun i => (r i).mono h

theorem get_cons (i j : Nat) (v : V) (e : Env) : get ((i, v) :: e) j = if i = j then v else get e j := by
  simp [get]

theorem ERel.put {e : Env} {a : Act} (r : ERel β e a.tmps) {v : V} {v' : Value} (hv : VRel β v v') (d : Option Nat)
    (hd : ∀ i, d = some i → i < a.tmps.size ∨ v = .undef ∨ True) : ERel β (put e d v) (a.put d v').tmps ∨ ∃ i, d = some i ∧ a.tmps.size ≤ i := by
  cases d with
  | none => exact .inl r
  | some d =>
    by_cases hlt : d < a.tmps.size
    · left
      intro i
      simp only [A.put, Act.put, get_cons]
      by_cases h : d = i
      · subst h
        simp [hlt, hv]
      · rw [if_neg h]
        have := r i
        simp only [Array.getD_eq_getD_getElem?] at this ⊢
        rw [Array.getElem?_setIfInBounds_ne (by omega)]
        exact this
    · exact .inr ⟨d, rfl, by omega⟩

theorem opd_rel {e : Env} {a : Act} (r : ERel β e a.tmps) {x : Operand} {y : Opd} (h : opd x = some y) : VRel β (y.ev e) (a.eval x) := by
  unfold opd at h
  split at h
  · cases h; exact r _
  · simp only [Option.map_eq_some_iff] at h
    obtain ⟨c, hc, rfl⟩ := h
    exact val_rel hc
  · cases h
  · cases h
    exact .fn' .nil .nil rfl

theorem opds_rel {ρ : Rho} {ρc : Operand → Value} (hρ : ∀ x y, opd x = some y → VRel β (ρ y) (ρc x)) : ∀ {xs : List Operand} {ys : List Opd}, opds xs = some ys → LRel β (ys.map ρ) (xs.map ρc)
  | [], ys, h => by simp [opds] at h; subst h; exact .nil
  | x :: xs, ys, h => by
    simp only [opds, Option.bind_eq_some_iff] at h
    obtain ⟨y, hy, zs, hz, e⟩ := h
    cases e
    exact .cons (hρ _ _ hy) (opds_rel hρ hz)

/-- The operation o gives, of the operands ρc, a value that stands to v. -/
def Gives (P : Program) (β : Map) (ρc : Operand → Value) (o : Op) (v : V) : Prop :=
  ∀ O : Oper, O.op = o → ∀ w, ∃ v', (execOp ρc O).run P w = .ok (.value v') w ∧ VRel β v v'

section
variable {ρ : Rho} {ρc : Operand → Value} (hρ : ∀ x y, opd x = some y → VRel β (ρ y) (ρc x))
include hρ

theorem gives_mv {x : Operand} {y : Opd} (h : opd x = some y) : Gives P β ρc (.move x) (ρ y) ∧ Gives P β ρc (.assign x) (ρ y) :=
  ⟨fun O hO w => ⟨ρc x, by simp [execOp, hO], hρ _ _ h⟩, fun O hO w => ⟨ρc x, by simp [execOp, hO], hρ _ _ h⟩⟩

theorem gives_pick {c a b : Operand} {c' a' b' : Opd} (hc : opd c = some c') (ha : opd a = some a') (hb : opd b = some b') {v : V}
    (h : (POp.pick c' a' b').ev ρ = some v) : Gives P β ρc (.pick c a b) v := by
  intro O hO w
  simp only [POp.ev] at h
  have hcc := hρ _ _ hc
  split at h
  · rename_i e
    rw [e] at hcc; have := hcc.bool_inv
    cases h
    exact ⟨ρc a, by simp [execOp, hO, this, asBool], hρ _ _ ha⟩
  · rename_i e
    rw [e] at hcc; have := hcc.bool_inv
    cases h
    exact ⟨ρc b, by simp [execOp, hO, this, asBool], hρ _ _ hb⟩
  · cases h

theorem gives_nilck {x : Operand} {y : Opd} (hx : opd x = some y) {v : V} (h : (POp.nilck y).ev ρ = some v) : Gives P β ρc (.nilCheck x) v := by
  intro O hO w
  simp only [POp.ev] at h
  have hxx := hρ _ _ hx
  split at h
  · rename_i b o e
    rw [e] at hxx
    obtain ⟨bi, hb, e'⟩ := hxx.ptr_inv
    cases h
    refine ⟨_, ?_, .ptr hb⟩
    simp [execOp, hO, e']
  · rename_i t z e
    rw [e] at hxx
    cases h
    obtain ⟨z', e', hz⟩ := hxx.ifc_inv
    refine ⟨_, ?_, .ifc hz⟩
    simp [execOp, hO, e']
  · rename_i f a b e
    rw [e] at hxx
    cases h
    obtain ⟨g, ys, us, e', -, -, ⟨rfl, -⟩ | ⟨l, bi, hl, -⟩⟩ := hxx.fn_inv
    · exact ⟨ρc x, by simp [execOp, hO, e'], hxx⟩
    · cases hl
  · rename_i f a b e
    rw [e] at hxx
    cases h
    obtain ⟨g, ys, us, e', -, -, ⟨rfl, hy⟩ | ⟨l, bi, hl, hb, rfl⟩⟩ := hxx.fn_inv
    · cases hy
    · exact ⟨ρc x, by simp [execOp, hO, e'], hxx⟩
  · cases h

theorem binI_sim {op : BinOp} {k : IntKind} {a b : Int} {v : V} (h : binI op k a b = some v) (t : TypeId) (w : World) (hop : op ≠ .shl ∧ op ≠ .shr) :
    ∃ v', (binOp op t (.int k a) (.int k b)).run P w = .ok v' w ∧ VRel β v v' := by
  unfold binI at h
  split at h
  all_goals first
    | (cases h; refine ⟨_, ?_, by constructor⟩; simp [binOp, Op.intArith, Op.intBits, Op.intCmp]; done)
    | (split at h
       · cases h
       · rename_i hb
         cases h
         refine ⟨_, ?_, by constructor⟩
         simp [binOp, Op.intDiv, hb])
    | cases h

theorem gives_bin {op : BinOp} {t t' : TypeId} {x y : Operand} {x' y' : Opd} (hx : opd x = some x') (hy : opd y = some y') {v : V}
    (h : (POp.bin op x' y').ev ρ = some v) : Gives P β ρc (.binOp op t x y t') v := by
  intro O hO w
  have hxx := hρ _ _ hx
  have hyy := hρ _ _ hy
  simp only [POp.ev, evBin] at h
  generalize ρ x' = vx at h hxx
  generalize ρ y' = vy at h hyy
  have hg : ∀ a b, (∃ k n, a = Value.int k n) ∨ (∃ s, a = Value.string s) → (eqGuard op t x y a b) = pure () := by
    rintro a b (⟨k, n, rfl⟩ | ⟨s, rfl⟩)
    · exact eqGuard_at_int ..
    · exact eqGuard_at_string ..
  split at h
  · rename_i k a k2 b
    have e1 := hxx.int_inv; have e2 := hyy.int_inv
    split at h
    · cases h
    · rename_i hb
      cases h
      (refine ⟨_, ?_, by constructor⟩; simp [execOp, hO, e1, e2, hg _ _ (.inl ⟨k, a, rfl⟩), binOp, Op.shift, hb])
  · rename_i k a k2 b
    have e1 := hxx.int_inv; have e2 := hyy.int_inv
    split at h
    · cases h
    · rename_i hb
      cases h
      (refine ⟨_, ?_, by constructor⟩; simp [execOp, hO, e1, e2, hg _ _ (.inl ⟨k, a, rfl⟩), binOp, Op.shift, hb])
  · rename_i k a k2 b n1 n2
    have e1 := hxx.int_inv; have e2 := hyy.int_inv
    split at h
    · rename_i hk
      subst hk
      obtain ⟨v', hr, hv⟩ := binI_sim (P := P) (β := β) hρ h t w ⟨fun e => by first | exact n1 e | exact n1 _ _ _ _ e rfl rfl, fun e => by first | exact n2 e | exact n2 _ _ _ _ e rfl rfl⟩
      exact ⟨v', by simp [execOp, hO, e1, e2, hg _ _ (.inl ⟨k, a, rfl⟩), hr], hv⟩
    · cases h
  · rename_i s1 s2 _ _ _
    obtain ⟨z1, e1, rfl⟩ := hxx.str_inv
    obtain ⟨z2, e2, rfl⟩ := hyy.str_inv
    have hl1 : ∀ z : ByteArray, z.toList = z.data.toList := fun z => ByteArray.toList_eq z
    unfold binS at h
    dsimp only at h
    split at h
    · split at h
      · rename_i hle
        cases h
        refine ⟨.string (z1 ++ z2), ?_, ?_⟩
        · have hle' : (z1.size : Int) + z2.size ≤ 9223372036854775807 := by
            have h1 : z1.data.toList.length = z1.size := Array.length_toList
            have h2 : z2.data.toList.length = z2.size := Array.length_toList
            omega
          have : ¬ ((z1.size : Int) + z2.size > IntKind.i64.max) := by
            rw [IntKind.max_i64]; omega
          simp [execOp, hO, e1, e2, hg _ _ (.inr ⟨z1, rfl⟩), binOp, Op.stringOp, hle']
        · have : z1.data.toList ++ z2.data.toList = (z1 ++ z2).data.toList := by simp
          rw [this]; exact .str _
      · cases h
    all_goals first
      | (cases h; (refine ⟨_, ?_, by constructor⟩; simp [execOp, hO, e1, e2, hg _ _ (.inr ⟨z1, rfl⟩), binOp, Op.stringOp, hl1]))
      | cases h
  · cases h

theorem gives_un {op : UnOp} {t : TypeId} {x : Operand} {y : Opd} (hx : opd x = some y) {v : V} (h : (POp.un op y).ev ρ = some v) :
    Gives P β ρc (.unOp op t x) v := by
  intro O hO w
  have hxx := hρ _ _ hx
  simp only [POp.ev, evUn] at h
  generalize ρ y = vx at h hxx
  split at h
  · have e := hxx.int_inv; cases h
    (refine ⟨_, ?_, by constructor⟩; simp [execOp, hO, e, Op.unary, Op.intArith])
  · have e := hxx.int_inv; cases h
    (refine ⟨_, ?_, by constructor⟩; simp [execOp, hO, e, Op.unary, Op.intBits])
  · have e := hxx.bool_inv; cases h
    (refine ⟨_, ?_, by constructor⟩; simp [execOp, hO, e, Op.unary])
  · cases h

theorem gives_conv {s d : TypeId} {k : IntKind} {x : Operand} {y : Opd} (hd : P.underlying d = some (.int k)) (hx : opd x = some y) {v : V}
    (h : (POp.conv k y).ev ρ = some v) (hs : ∃ ds, P.underlying s = some ds) : Gives P β ρc (.convert s d x) v := by
  intro O hO w
  have hxx := hρ _ _ hx
  simp only [POp.ev] at h
  generalize ρ y = vx at h hxx
  obtain ⟨ds, hs⟩ := hs
  split at h
  · have e := hxx.int_inv; cases h
    refine ⟨_, ?_, by constructor⟩
    simp [execOp, hO, e, convert, run_underlying hd, run_underlying hs, Conv.intToInt]
  · cases h

theorem gives_retag {s d : TypeId} {x : Operand} {y : Opd} (hd : P.underlying d = some .string) (hx : opd x = some y) {v : V}
    (h : (POp.retag y).ev ρ = some v) (hs : ∃ ds, P.underlying s = some ds) : Gives P β ρc (.convert s d x) v := by
  intro O hO w
  have hxx := hρ _ _ hx
  simp only [POp.ev] at h
  generalize ρ y = vx at h hxx
  obtain ⟨ds, hs⟩ := hs
  split at h
  · obtain ⟨z, e, rfl⟩ := hxx.str_inv; cases h
    refine ⟨.string z, ?_, .str z⟩
    simp [execOp, hO, e, convert, run_underlying hd, run_underlying hs]
  · cases h

theorem gives_mkif {t : TypeId} {d : TypeDesc} (ht : P.underlying t = some d) (hd : ∀ ms, d ≠ .interface ms) {x : Operand} {y : Opd} (hx : opd x = some y) :
    Gives P β ρc (.makeInterface t x) (.ifc t (ρ y)) := by
  intro O hO w
  refine ⟨.iface t (ρc x), ?_, .ifc (hρ _ _ hx)⟩
  have hc : P.concrete t = true := by
    unfold Program.concrete
    rw [ht]
    cases d <;> simp_all
  simp [execOp, hO, run_makeInterface w t (ρc x) hc]

theorem gives_mkfn {fn : Fn} (hy : isY fn = false) {a b : Array Operand} {a' b' : List Opd} (ha : opds a.toList = some a') (hb : opds b.toList = some b') :
    Gives P β ρc (.makeFunc fn a b) (.fn fn (a'.map ρ) (b'.map ρ)) := by
  intro O hO w
  refine ⟨.func fn (a.map ρc) (b.map ρc), by simp [execOp, hO, Instr.makeFunc], .fn' ?_ ?_ hy⟩
  · simpa using opds_rel hρ ha
  · simpa using opds_rel hρ hb

theorem gives_ext {x : Operand} {y : Opd} (hx : opd x = some y) {i : Nat} {v : V} (h : (POp.ext y i).ev ρ = some v) : Gives P β ρc (.extract x i) v := by
  intro O hO w
  have hxx := hρ _ _ hx
  simp only [POp.ev] at h
  generalize ρ y = vx at h hxx
  split at h
  · obtain ⟨ys, e, r⟩ := hxx.tup_inv
    obtain ⟨v', hv, hr⟩ := r.get h
    refine ⟨v', ?_, hr⟩
    have : ys[i]? = some v' := by simpa using hv
    simp [execOp, hO, e, Instr.extract, this]
  · cases h
end

end Go.A

/- Each operation that looks at its operands alone does in the machine what it does in A (second part). -/
set_option linter.unusedVariables false
set_option linter.unusedSimpArgs false
set_option linter.unusedSectionVars false
namespace Go.A

variable {P : Program} {β : Map}

theorem run_sizeOf {t : TypeId} {n : Nat} (h : sizeOf? P t = some n) (w : World) : (sizeOf t).run P w = .ok n w := by
  unfold sizeOf? at h
  simp only [Option.map_eq_some_iff] at h
  obtain ⟨i, hi, rfl⟩ := h
  simp [sizeOf, typeInfo, hi]

theorem run_zeroV {t : TypeId} {z : V} (h : zero? P t = some z) (w : World) : ∃ z', (zeroValue t).run P w = .ok z' w ∧ VRel β z z' ∧ (∀ vs, z ≠ .tup vs) ∧ z ≠ .undef := by
  unfold zero? at h
  simp only [Option.bind_eq_some_iff] at h
  obtain ⟨v, ⟨i, hi, hz⟩, hv⟩ := h
  exact ⟨v, by simp [zeroValue, typeInfo, hi, hz], val_rel hv, val_notup hv⟩

theorem run_zeros {t : TypeId} {zs : List V} (h : zeros? P t = some zs) (w : World) : ∃ z', (zeroValue t).run P w = .ok z' w ∧ LRel β zs z'.cells.toList := by
  unfold zeros? at h
  simp only [Option.map_eq_some_iff] at h
  obtain ⟨z, hz, rfl⟩ := h
  obtain ⟨z', h1, h2, h3, h4⟩ := run_zeroV (β := β) hz w
  exact ⟨z', h1, h2.cells h3 h4⟩

theorem run_isAgg {t : TypeId} {b : Bool} (h : isAgg? P t = some b) (w : World) : (isAgg t).run P w = .ok b w := by
  unfold isAgg? at h
  split at h
  · rename_i e; cases h; simp [isAgg, run_underlying e]
  · rename_i e; cases h; simp [isAgg, run_underlying e]
  · rename_i d h1 h2 e
    cases h
    unfold isAgg
    rw [Sem.run_bind, run_underlying e]
    cases d <;> simp_all
  · cases h

/-- A part of an aggregate. -/
theorem run_part {t : TypeId} {sz : Option Nat} (hs : szOf P t = some sz) {xs : List V} {ys : Array Value} (r : LRel β xs ys.toList) {off : Nat} {v : V}
    (h : part xs off sz = some v) (w : World) : ∃ v', (Go.part t ys off).run P w = .ok v' w ∧ VRel β v v' := by
  unfold szOf at hs
  unfold part at h
  unfold Go.part
  split at hs
  · rename_i e
    simp only [Option.map_eq_some_iff] at hs
    obtain ⟨n, hn, rfl⟩ := hs
    dsimp only at h
    split at h
    · rename_i hle
      cases h
      refine ⟨.agg (ys.extract off (off + n)), ?_, .agg' ?_⟩
      · simp [run_isAgg e, run_sizeOf hn]
      · have := (r.drop off).take n
        simpa [List.take_drop] using this
    · cases h
  · rename_i e
    cases hs
    dsimp only at h
    obtain ⟨v', hv, hr⟩ := r.get h
    refine ⟨v', ?_, hr⟩
    have : ys[off]? = some v' := by simpa using hv
    simp [run_isAgg e, this]
  · cases hs

theorem nat?_some {v : V} {j : Nat} (h : v.nat? = some j) : ∃ k n, v = .int k n ∧ 0 ≤ n ∧ j = n.toNat := by
  unfold V.nat? at h
  split at h
  · split at h
    · cases h; exact ⟨_, _, rfl, ‹_›, rfl⟩
    · cases h
  · cases h

section
variable {ρ : Rho} {ρc : Operand → Value} (hρ : ∀ x y, opd x = some y → VRel β (ρ y) (ρc x))
include hρ

theorem opd_nat {i : Operand} {y : Opd} (hi : opd i = some y) {j : Nat} (h : (ρ y).nat? = some j) : ∃ k n, ρc i = .int k n ∧ 0 ≤ n ∧ j = n.toNat := by
  obtain ⟨k, n, e, h0, rfl⟩ := nat?_some h
  have := hρ _ _ hi
  rw [e] at this
  exact ⟨k, n, this.int_inv, h0, rfl⟩

theorem gives_fieldA {s : TypeId} {fields : Array Field} {fd : Field} {x : Operand} {y : Opd} {f : Nat} (hs : P.underlying s = some (.struct fields)) (hf : fields[f]? = some fd)
    {n : Nat} (hn : sizeOf? P fd.type = some n) (h0 : n ≠ 0) (hx : opd x = some y) {v : V} (h : (POp.fieldA fd.offset y).ev ρ = some v) : Gives P β ρc (.fieldAddr s x f) v := by
  intro O hO w
  have hxx := hρ _ _ hx
  simp only [POp.ev] at h
  generalize ρ y = vx at h hxx
  split at h
  · rename_i b o
    obtain ⟨bi, hb, e⟩ := hxx.ptr_inv
    cases h
    refine ⟨_, ?_, .ptr hb⟩
    have ha : (⟨bi.blk, bi.off + o, none⟩ : Addr).add fd.offset = ⟨bi.blk, bi.off + (o + fd.offset), none⟩ := by
      rw [Addr.add_lit]; simp [Nat.add_assoc]
    simp [execOp, hO, e, Instr.fieldAt, run_underlying hs, hf, Instr.sureAddr, fieldPlace, run_sizeOf hn, h0, ha]
  · cases h

theorem gives_field {s : TypeId} {fields : Array Field} {fd : Field} {x : Operand} {y : Opd} {f : Nat} {z : Option Nat} (hs : P.underlying s = some (.struct fields)) (hf : fields[f]? = some fd)
    (hz : szOf P fd.type = some z) (hx : opd x = some y) {v : V} (h : (POp.field fd.offset z y).ev ρ = some v) : Gives P β ρc (.field s x f) v := by
  intro O hO w
  have hxx := hρ _ _ hx
  simp only [POp.ev] at h
  generalize ρ y = vx at h hxx
  split at h
  · obtain ⟨ys, e, r⟩ := hxx.agg_inv
    obtain ⟨v', h1, h2⟩ := run_part (P := P) hz r h w
    refine ⟨v', ?_, h2⟩
    simp [execOp, hO, e, Instr.field, run_underlying hs, hf, asAgg, h1]
  · cases h

theorem gives_idxA {t e : TypeId} {n s : Nat} {x i : Operand} {a b : Opd} (ht : P.underlying t = some (.array n e)) (hs : sizeOf? P e = some s)
    (hx : opd x = some a) (hi : opd i = some b) {v : V} (h : (POp.idxA n s a b).ev ρ = some v) : Gives P β ρc (.indexAddr t x i) v := by
  intro O hO w
  have hxx := hρ _ _ hx
  simp only [POp.ev] at h
  split at h
  · rename_i b' o j e1 e2
    rw [e1] at hxx
    obtain ⟨bi, hb, e'⟩ := hxx.ptr_inv
    obtain ⟨k, m, e3, h0, rfl⟩ := opd_nat hρ hi e2
    split at h
    · rename_i hlt
      cases h
      refine ⟨_, ?_, .ptr hb⟩
      have ha : (⟨bi.blk, bi.off + o, none⟩ : Addr).add (m.toNat * s) = ⟨bi.blk, bi.off + (o + m.toNat * s), none⟩ := by
        rw [Addr.add_lit]; simp [Nat.add_assoc]
      have hlt' : m < (n : Int) := by omega
      simp [execOp, hO, e', e3, Instr.indexAt, asIntOf, run_underlying ht, Instr.sureAddr, run_sizeOf hs, h0, hlt', ha]
    · cases h
  · cases h

theorem gives_idxS {t e : TypeId} {s : Nat} {x i : Operand} {a b : Opd} (ht : P.underlying t = some (.slice e)) (hs : sizeOf? P e = some s)
    (hx : opd x = some a) (hi : opd i = some b) {v : V} (h : (POp.idxS s a b).ev ρ = some v) : Gives P β ρc (.indexAddr t x i) v := by
  intro O hO w
  have hxx := hρ _ _ hx
  simp only [POp.ev] at h
  split at h
  · rename_i ee b' o n c j e1 e2
    rw [e1] at hxx
    obtain ⟨bi, o', cc, hb, e', hn, hc, ho, -⟩ := hxx.sl_inv
    obtain ⟨k, m, e3, h0, rfl⟩ := opd_nat hρ hi e2
    split at h
    · rename_i hlt
      cases h
      refine ⟨_, ?_, .ptr hb⟩
      have ho' := ho (by omega)
      have ha : (⟨bi.blk, o', none⟩ : Addr).add (m.toNat * s) = ⟨bi.blk, bi.off + (o + m.toNat * s), none⟩ := by
        rw [Addr.add_lit, ho']; simp [Nat.add_assoc]
      have hlt' : m < (n : Int) := by omega
      simp [execOp, hO, e', e3, Instr.indexAt, asIntOf, run_underlying ht, run_sizeOf hs, h0, hlt', ha]
    · cases h
  · cases h

theorem gives_idx {t e : TypeId} {n s : Nat} {z : Option Nat} {x i : Operand} {a b : Opd} (ht : P.underlying t = some (.array n e)) (hs : sizeOf? P e = some s) (hz : szOf P e = some z)
    (hx : opd x = some a) (hi : opd i = some b) {v : V} (h : (POp.idx n s z a b).ev ρ = some v) : Gives P β ρc (.index t x i) v := by
  intro O hO w
  have hxx := hρ _ _ hx
  simp only [POp.ev] at h
  split at h
  · rename_i cs j e1 e2
    rw [e1] at hxx
    obtain ⟨ys, e', r⟩ := hxx.agg_inv
    obtain ⟨k, m, e3, h0, rfl⟩ := opd_nat hρ hi e2
    split at h
    · rename_i hlt
      obtain ⟨v', h1, h2⟩ := run_part (P := P) hz r h w
      refine ⟨v', ?_, h2⟩
      have hlt' : m < (n : Int) := by omega
      simp [execOp, hO, e', e3, Instr.index, asIntOf, run_underlying ht, run_sizeOf hs, h0, hlt', h1]
    · cases h
  · cases h

theorem gives_idxStr {t : TypeId} {x i : Operand} {a b : Opd} (ht : P.underlying t = some .string) (hx : opd x = some a) (hi : opd i = some b) {v : V}
    (h : (POp.idxStr a b).ev ρ = some v) : Gives P β ρc (.index t x i) v := by
  intro O hO w
  have hxx := hρ _ _ hx
  simp only [POp.ev] at h
  split at h
  · rename_i s j e1 e2
    rw [e1] at hxx
    obtain ⟨z, e', rfl⟩ := hxx.str_inv
    obtain ⟨k, m, e3, h0, rfl⟩ := opd_nat hρ hi e2
    simp only [Option.map_eq_some_iff] at h
    obtain ⟨u, hu, rfl⟩ := h
    refine ⟨_, ?_, .int _ _⟩
    have hz : z[m.toNat]? = some u := by
      obtain ⟨hlt, hq⟩ := List.getElem?_eq_some_iff.1 hu
      have hlt' : m.toNat < z.size := by have : z.data.toList.length = z.size := Array.length_toList; omega
      rw [getElem?_pos z m.toNat hlt', ← hq]
      rfl
    simp [execOp, hO, e', e3, Instr.index, asIntOf, run_underlying ht, h0, hz]
  · cases h

theorem gives_lenK {t e : TypeId} {n : Nat} {x : Operand} {args : Array Operand} {tys : Array TypeId} (ha : args.toList = [x]) (hty : tys.toList = [t]) (ht : P.underlying t = some (.array n e)) :
    Gives P β ρc (.call { callee := .builtin .len, args, argTypes := tys }) (.int .i64 n) := by
  intro O hO w
  refine ⟨_, ?_, .int _ _⟩
  have h1 : args = #[x] := by rw [← Array.toArray_toList (xs := args), ha]
  have h2 : tys = #[t] := by rw [← Array.toArray_toList (xs := tys), hty]
  simp [execOp, hO, h1, h2, resolve, invoke, builtin, Builtin.len_, run_underlying ht, goInt]

theorem gives_lenT {t : TypeId} {x : Operand} {y : Opd} {args : Array Operand} {tys : Array TypeId} (ha : args.toList = [x]) (hty : tys.toList = [t])
    (ht : P.underlying t = some .string) (hx : opd x = some y) {v : V} (h : (POp.lenT y).ev ρ = some v) : Gives P β ρc (.call { callee := .builtin .len, args, argTypes := tys }) v := by
  intro O hO w
  have hxx := hρ _ _ hx
  have h1 : args = #[x] := by rw [← Array.toArray_toList (xs := args), ha]
  have h2 : tys = #[t] := by rw [← Array.toArray_toList (xs := tys), hty]
  simp only [POp.ev] at h
  generalize ρ y = vx at h hxx
  split at h
  · obtain ⟨z, e', rfl⟩ := hxx.str_inv
    cases h
    have hl : (z.data.toList.length : Int) = z.size := congrArg Int.ofNat Array.length_toList
    rw [hl]
    refine ⟨_, ?_, .int _ _⟩
    simp [execOp, hO, h1, h2, resolve, invoke, builtin, Builtin.len_, run_underlying ht, goInt, e']
  · cases h

theorem gives_lenS {t e : TypeId} {x : Operand} {y : Opd} {args : Array Operand} {tys : Array TypeId} (ha : args.toList = [x]) (hty : tys.toList = [t])
    (ht : P.underlying t = some (.slice e)) (hx : opd x = some y) {v : V} (h : (POp.lenS y).ev ρ = some v) : Gives P β ρc (.call { callee := .builtin .len, args, argTypes := tys }) v := by
  intro O hO w
  have hxx := hρ _ _ hx
  have h1 : args = #[x] := by rw [← Array.toArray_toList (xs := args), ha]
  have h2 : tys = #[t] := by rw [← Array.toArray_toList (xs := tys), hty]
  simp only [POp.ev] at h
  generalize ρ y = vx at h hxx
  split at h
  · obtain ⟨bi, o', cc, hb, e', hn, hc, ho, -⟩ := hxx.sl_inv
    cases h
    refine ⟨_, ?_, .int _ _⟩
    simp [execOp, hO, h1, h2, resolve, invoke, builtin, Builtin.len_, run_underlying ht, goInt, e']
  · obtain ⟨a0, e'⟩ := hxx.nils_inv
    cases h
    refine ⟨_, ?_, .int _ _⟩
    simp [execOp, hO, h1, h2, resolve, invoke, builtin, Builtin.len_, run_underlying ht, goInt, e']
  · cases h

theorem mm2_sim {isMax : Bool} {x y v : V} {x' y' : Value} (h : mm2 isMax x y = some v) (hx : VRel β x x') (hy : VRel β y y') (w : World) :
    ∃ v', ((if isMax then Builtin.max2 else Builtin.min2) x' y').run P w = .ok v' w ∧ VRel β v v' := by
  unfold mm2 at h
  split at h
  · split at h
    · rename_i hk
      subst hk
      rw [hx.int_inv, hy.int_inv]
      cases h
      refine ⟨_, ?_, .int _ _⟩
      cases isMax <;> simp [Builtin.max2, Builtin.min2]
    · cases h
  · cases h

theorem mmL_sim {isMax : Bool} : ∀ (ys : List V) (ys' : List Value) (x v : V) (x' : Value), mmL isMax x ys = some v → VRel β x x' → LRel β ys ys' → ∀ w,
    ∃ v', ((ys'.foldlM (if isMax then Builtin.max2 else Builtin.min2) x') : Sem Value).run P w = .ok v' w ∧ VRel β v v'
  | [], ys', x, v, x', h, hx, hy, w => by
    rw [hy.inv_nil]
    simp only [mmL, Option.some.injEq] at h
    subst h
    exact ⟨x', by simp, hx⟩
  | y :: ys, ys', x, v, x', h, hx, hy, w => by
    obtain ⟨z, zs, rfl, h1, h2⟩ := hy.inv_cons
    simp only [mmL, Option.bind_eq_some_iff] at h
    obtain ⟨u, hu, hr⟩ := h
    obtain ⟨u', e1, r1⟩ := mm2_sim (P := P) hρ hu hx h1 w
    obtain ⟨v', e2, r2⟩ := mmL_sim ys zs u v u' hr r1 h2 w
    exact ⟨v', by simp [e1, e2], r2⟩

theorem gives_mm {isMax : Bool} {args : Array Operand} {tys : Array TypeId} {ys : List Opd} (ha : opds args.toList = some ys) {v : V} (h : (POp.mm isMax ys).ev ρ = some v) :
    Gives P β ρc (.call { callee := .builtin (if isMax then .max else .min), args, argTypes := tys }) v := by
  intro O hO w
  have hr := opds_rel hρ ha
  simp only [POp.ev] at h
  split at h
  · rename_i y r
    simp only [List.map_cons] at hr
    obtain ⟨z, zs, e, h1, h2⟩ := hr.inv_cons
    obtain ⟨v', e1, r1⟩ := mmL_sim (P := P) hρ _ _ _ _ _ h h1 h2 w
    refine ⟨v', ?_, r1⟩
    have e2 : (args.map ρc).toList = z :: zs := by simpa using e
    cases isMax
    · simp only [if_false, Bool.false_eq_true] at hO e1
      simp [execOp, hO, resolve, invoke, builtin, Builtin.min_, e, e1]
    · simp only [if_true] at hO e1
      simp [execOp, hO, resolve, invoke, builtin, Builtin.max_, e, e1]
  · cases h

theorem gives_asrt {x : Operand} {y : Opd} {xt t : TypeId} {d : TypeDesc} {z : V} {ok : Bool} (ht : P.underlying t = some d) (hd : ∀ ms, d ≠ .interface ms) (hz : zero? P t = some z)
    (hx : opd x = some y) {v : V} (h : (POp.asrt t z ok y).ev ρ = some v) : Gives P β ρc (.typeAssert x xt t ok) v := by
  intro O hO w
  have hxx := hρ _ _ hx
  obtain ⟨z', hz1, hz2, -⟩ := run_zeroV (β := β) hz w
  simp only [POp.ev] at h
  generalize ρ y = vx at h hxx
  have hnil : ∀ {v'}, v' = Value.nilIface → ok = true → (Instr.typeAssert v' xt t ok).run P w = .ok (.tuple #[z', .bool false]) w := by
    rintro v' rfl rfl
    unfold Instr.typeAssert
    rw [Sem.run_bind, run_underlying ht]
    cases d <;> simp_all
  split at h
  · rename_i t' u
    obtain ⟨u', e, hu⟩ := hxx.ifc_inv
    split at h
    · rename_i htt
      subst htt
      have hr : (Instr.typeAssert (.iface t' u') xt t' ok).run P w = .ok (if ok then .tuple #[u', .bool true] else u') w := by
        unfold Instr.typeAssert
        rw [Sem.run_bind, run_underlying ht]
        cases d <;> simp_all
      cases ok
      · simp at h hr; subst h
        exact ⟨u', by simp [execOp, hO, e, hr], hu⟩
      · simp at h hr; subst h
        exact ⟨.tuple #[u', .bool true], by simp [execOp, hO, e, hr], .tup' (.cons hu (.cons (.bool _) .nil))⟩
    · rename_i htt
      split at h
      · rename_i hok
        subst hok
        cases h
        have hr : (Instr.typeAssert (.iface t' u') xt t true).run P w = .ok (.tuple #[z', .bool false]) w := by
          unfold Instr.typeAssert
          rw [Sem.run_bind, run_underlying ht]
          cases d <;> simp_all
        exact ⟨.tuple #[z', .bool false], by simp [execOp, hO, e, hr], .tup' (.cons hz2 (.cons (.bool _) .nil))⟩
      · cases h
  · have e := hxx.nili_inv
    split at h
    · rename_i hok
      cases h
      exact ⟨.tuple #[z', .bool false], by simp [execOp, hO, hnil e hok], .tup' (.cons hz2 (.cons (.bool _) .nil))⟩
    · cases h
  · cases h

theorem gives_s2a {arr e : TypeId} {n : Nat} {x : Operand} {y : Opd} (ha : P.underlying arr = some (.array n e)) (hx : opd x = some y) {v : V}
    (h : (POp.s2a n y).ev ρ = some v) (h0 : n ≠ 0) : Gives P β ρc (.sliceToArrayPointer arr x) v := by
  intro O hO w
  have hxx := hρ _ _ hx
  simp only [POp.ev] at h
  generalize ρ y = vx at h hxx
  split at h
  · obtain ⟨bi, o', cc, hb, e', hn, hc, ho, -⟩ := hxx.sl_inv
    split at h
    · rename_i hle
      cases h
      refine ⟨_, ?_, .ptr hb⟩
      have := ho (by omega)
      subst this
      simp [execOp, hO, e', Instr.arrayAt, run_underlying ha, Nat.not_lt.2 hle]
    · cases h
  · cases h
end

end Go.A

/- Each operation that looks at its operands alone does in the machine what it does in A (third part: slices, aggregates, comparisons; all of them). -/
set_option linter.unusedVariables false
set_option linter.unusedSimpArgs false
set_option linter.unusedSectionVars false
namespace Go.A

variable {P : Program} {β : Map}

def ORel (β : Map) (x : Option V) (y : Option Value) : Prop :=
  match x, y with
  | none, none => True
  | some v, some v' => VRel β v v'
  | _, _ => False

theorem run_bound {v : V} {v' : Value} (r : VRel β v v') {j : Nat} (h : v.nat? = some j) {y : Nat} (hj : j ≤ y) (code : BoundsCode) (w : World) :
    (Instr.sliceBound v' y code).run P w = .ok j w := by
  obtain ⟨k, n, rfl, h0, rfl⟩ := nat?_some h
  rw [r.int_inv]
  exact run_sliceBound w k n y code h0 (by omega)

theorem run_bounds {isSl : Bool} {n c cc : Nat} {lo hi mx : Option V} {lo' hi' mx' : Option Value} (hl : ORel β lo lo') (hh : ORel β hi hi') (hm : ORel β mx mx')
    {l h m : Nat} (e : bounds n c lo hi mx = some (l, h, m)) (hcc : c ≤ cc) (w : World) :
    (Instr.sliceBounds isSl n cc lo' hi' mx').run P w = .ok (l, h, if mx'.isSome then m else cc) w ∧ l ≤ h ∧ h ≤ m ∧ m ≤ c ∧ (mx' = none → m = c) := by
  unfold bounds at e
  dsimp only at e
  split at e
  case h_2 => cases e
  rename_i l0 h0 m0 el eh em
  split at e
  case isFalse => cases e
  rename_i hcond
  cases e
  obtain ⟨c1, c2, c3, c4⟩ := hcond
  refine ⟨?_, c1, c2, c3, ?_⟩
  · unfold Instr.sliceBounds
    cases mx' with
    | some mv =>
      cases mx with
      | none => exact hm.elim
      | some mv0 =>
        cases hi' with
        | none => cases hi with | none => simp at c4 | some _ => exact hh.elim
        | some hv =>
          cases hi with
          | none => exact hh.elim
          | some hv0 =>
            cases lo' with
            | none =>
              cases lo with
              | some _ => exact hl.elim
              | none =>
                simp only [Option.some.injEq] at el
                subst el
                simp [run_bound hm em (by omega : m ≤ cc), run_bound hh eh c2]
            | some lv =>
              cases lo with
              | none => exact hl.elim
              | some lv0 => simp [run_bound hm em (by omega : m ≤ cc), run_bound hh eh c2, run_bound hl el c1]
    | none =>
      cases mx with
      | some _ => exact hm.elim
      | none =>
        simp only [Option.some.injEq] at em
        subst em
        cases hi' with
        | none =>
          cases hi with
          | some _ => exact hh.elim
          | none =>
            simp only [Option.some.injEq] at eh
            subst eh
            cases lo' with
            | none =>
              cases lo with
              | some _ => exact hl.elim
              | none =>
                simp only [Option.some.injEq] at el
                subst el
                simp
            | some lv =>
              cases lo with
              | none => exact hl.elim
              | some lv0 => simp [run_bound hl el c1]
        | some hv =>
          cases hi with
          | none => exact hh.elim
          | some hv0 =>
            cases lo' with
            | none =>
              cases lo with
              | some _ => exact hl.elim
              | none =>
                simp only [Option.some.injEq] at el
                subst el
                simp [run_bound hh eh (by omega : h ≤ cc)]
            | some lv =>
              cases lo with
              | none => exact hl.elim
              | some lv0 => simp [run_bound hh eh (by omega : h ≤ cc), run_bound hl el c1]
  · rintro rfl
    cases mx with
    | some _ => exact hm.elim
    | none => simpa using em.symm

theorem opdO_rel {ρ : Rho} {ρc : Operand → Value} (hρ : ∀ x y, opd x = some y → VRel β (ρ y) (ρc x)) {x : Option Operand} {y : Option Opd} (h : opdO x = some y) :
    ORel β (y.map ρ) (x.map ρc) := by
  cases x with
  | none => simp [opdO] at h; subst h; exact trivial
  | some x =>
    simp only [opdO, Option.map_eq_some_iff] at h
    obtain ⟨z, hz, rfl⟩ := h
    exact hρ _ _ hz

section
variable {ρ : Rho} {ρc : Operand → Value} (hρ : ∀ x y, opd x = some y → VRel β (ρ y) (ρc x))
include hρ

theorem gives_slStr {t : TypeId} {x : Operand} {lo hi : Option Operand} {a : Opd} {l h : Option Opd} (ht : P.underlying t = some .string)
    (hx : opd x = some a) (hl : opdO lo = some l) (hh : opdO hi = some h) {v : V} (e : (POp.slStr a l h).ev ρ = some v) : Gives P β ρc (.slice t x lo hi none) v := by
  intro O hO w
  have hxx := hρ _ _ hx
  simp only [POp.ev] at e
  generalize ρ a = vx at e hxx
  split at e
  · obtain ⟨z, e', rfl⟩ := hxx.str_inv
    simp only [Option.map_eq_some_iff] at e
    obtain ⟨⟨l0, h0, m0⟩, eb, rfl⟩ := e
    have hz : z.data.toList.length = z.size := Array.length_toList
    rw [hz] at eb
    obtain ⟨hr, h1, h2, h3, h4⟩ := run_bounds (P := P) (isSl := false) (opdO_rel hρ hl) (opdO_rel hρ hh) (show ORel β none none from trivial) eb (Nat.le_refl _) w
    have hs : ((z.data.toList.take h0).drop l0) = (z.extract l0 h0).data.toList := by
      simp [ByteArray.data_extract, List.drop_take]
    refine ⟨.string (z.extract l0 h0), ?_, by rw [hs]; exact .str _⟩
    simp only [Option.isSome_none, if_false, Bool.false_eq_true] at hr
    simp [execOp, hO, e', Instr.sliceAt, Instr.slice, run_underlying ht, hr]
  · cases e

theorem gives_slSl {t el : TypeId} {s : Nat} {x : Operand} {lo hi mx : Option Operand} {a : Opd} {l h m : Option Opd} (ht : P.underlying t = some (.slice el)) (hs : sizeOf? P el = some s)
    (hx : opd x = some a) (hl : opdO lo = some l) (hh : opdO hi = some h) (hm : opdO mx = some m) {v : V} (e : (POp.slSl s a l h m).ev ρ = some v) : Gives P β ρc (.slice t x lo hi mx) v := by
  intro O hO w
  have hxx := hρ _ _ hx
  simp only [POp.ev] at e
  generalize ρ a = vx at e hxx
  split at e
  · rename_i ee b o n c
    obtain ⟨bi, o', cc, hb, e', hn, hc, ho, hok⟩ := hxx.sl_inv
    split at e
    case isFalse => cases e
    rename_i hee
    subst hee
    simp only [Option.map_eq_some_iff] at e
    obtain ⟨⟨l0, h0, m0⟩, eb, rfl⟩ := e
    obtain ⟨hr, h1, h2, h3, h4⟩ := run_bounds (P := P) (isSl := true) (opdO_rel hρ hl) (opdO_rel hρ hh) (opdO_rel hρ hm) eb hc w
    dsimp only
    generalize hmc : (if (Option.map ρc mx).isSome = true then m0 else cc) = mc at hr
    have hmc' : m0 ≤ mc ∧ mc ≤ cc ∧ (cc = c → mc = m0) ∧ (mc = m0 ∨ (mc = cc ∧ m0 = c)) := by
      cases mx with
      | none =>
        have := h4 rfl
        simp at hmc
        subst hmc
        exact ⟨by omega, Nat.le_refl _, fun h => by omega, .inr ⟨rfl, this⟩⟩
      | some _ =>
        simp at hmc
        subst hmc
        exact ⟨Nat.le_refl _, by omega, fun _ => rfl, .inl rfl⟩
    obtain ⟨g1, g2, g3, g4⟩ := hmc'
    refine ⟨.slice (some ⟨bi.blk, if mc = l0 then o' else o' + l0 * ee, none⟩) (h0 - l0) (mc - l0), ?_, .sl hb (by omega) (by omega) ?_ ?_⟩
    · have ha : (if mc = l0 then some (⟨bi.blk, o', none⟩ : Addr) else some ((⟨bi.blk, o', none⟩ : Addr).add (l0 * ee))) = some ⟨bi.blk, if mc = l0 then o' else o' + l0 * ee, none⟩ := by
        rw [Addr.add_lit]; split <;> rfl
      simp [execOp, hO, e', Instr.sliceAt, Instr.slice, run_underlying ht, hr, run_sizeOf hs, ha]
    · intro hne
      have : m0 ≠ l0 := by omega
      have h5 : mc ≠ l0 := by omega
      rw [if_neg this, if_neg h5, ho (by omega)]
      omega
    · unfold SlOk at hok ⊢
      split
      · rename_i hmd
        rw [hmd] at hok
        obtain ⟨k1, k2⟩ := hok
        have k3 := g3 k1
        refine ⟨by rw [k3], ?_⟩
        rw [k3, k2]
        split <;> omega
      · rename_i e1 hmd
        rw [hmd] at hok
        rcases hok with k1 | ⟨k1, k2⟩
        · left; rw [g3 k1]
        · rcases g4 with g4 | ⟨g4, g5⟩
          · left; rw [g4]
          · right
            refine ⟨k1, ?_⟩
            subst g4
            split
            · rename_i hz
              subst hz
              simp
              have : mc * ee ≥ 0 := Nat.zero_le _
              omega
            · have : l0 ≤ mc := by omega
              rw [Nat.sub_mul]
              have := Nat.mul_le_mul_right ee this
              omega
      · trivial
  · obtain ⟨a0, e'⟩ := hxx.nils_inv
    simp only [Option.map_eq_some_iff] at e
    obtain ⟨⟨l0, h0, m0⟩, eb, rfl⟩ := e
    obtain ⟨hr, h1, h2, h3, h4⟩ := run_bounds (P := P) (isSl := true) (opdO_rel hρ hl) (opdO_rel hρ hh) (opdO_rel hρ hm) eb (Nat.le_refl 0) w
    have z1 : m0 = 0 := by omega
    have z2 : h0 = 0 := by omega
    have z3 : l0 = 0 := by omega
    subst z1 z2 z3
    refine ⟨.slice a0 0 0, ?_, .nils a0⟩
    simp only [ite_self] at hr
    cases a0 <;> simp [execOp, hO, e', Instr.sliceAt, Instr.slice, run_underlying ht, hr, run_sizeOf hs, Addr.add]
  · cases e

theorem gives_slArr {t el : TypeId} {n s : Nat} {x : Operand} {lo hi mx : Option Operand} {a : Opd} {l h m : Option Opd}
    (ht : P.underlying t = some (.array n el) ∨ ∃ arr, P.underlying t = some (.pointer arr) ∧ P.underlying arr = some (.array n el)) (hs : sizeOf? P el = some s)
    (hx : opd x = some a) (hl : opdO lo = some l) (hh : opdO hi = some h) (hm : opdO mx = some m) {v : V} (e : (POp.slArr n s a l h m).ev ρ = some v) : Gives P β ρc (.slice t x lo hi mx) v := by
  intro O hO w
  have hxx := hρ _ _ hx
  simp only [POp.ev] at e
  generalize ρ a = vx at e hxx
  split at e
  · rename_i b o
    obtain ⟨bi, hb, e'⟩ := hxx.ptr_inv
    simp only [Option.map_eq_some_iff] at e
    obtain ⟨⟨l0, h0, m0⟩, eb, rfl⟩ := e
    obtain ⟨hr, h1, h2, h3, h4⟩ := run_bounds (P := P) (isSl := false) (opdO_rel hρ hl) (opdO_rel hρ hh) (opdO_rel hρ hm) eb (Nat.le_refl n) w
    dsimp only
    have hmc : (if (Option.map ρc mx).isSome = true then m0 else n) = m0 := by
      cases mx with
      | none => simpa using (h4 rfl).symm
      | some _ => simp
    rw [hmc] at hr
    have ha : (if m0 = l0 then (⟨bi.blk, bi.off + o, none⟩ : Addr) else ((⟨bi.blk, bi.off + o, none⟩ : Addr).add (l0 * s))) = ⟨bi.blk, if m0 = l0 then bi.off + o else bi.off + o + l0 * s, none⟩ := by
      rw [Addr.add_lit]; split <;> rfl
    refine ⟨.slice (some ⟨bi.blk, if m0 = l0 then bi.off + o else bi.off + o + l0 * s, none⟩) (h0 - l0) (m0 - l0), ?_, .sl hb (by omega) (Nat.le_refl _) ?_ ?_⟩
    · rcases ht with ht | ⟨arr, ht, hta⟩
      · simp [execOp, hO, e', Instr.sliceAt, run_underlying ht, Instr.sureAddr, hr, run_sizeOf hs, ha]
      · simp [execOp, hO, e', Instr.sliceAt, Instr.slice, run_underlying ht, run_underlying hta, asAddr, hr, run_sizeOf hs, ha]
    · intro _
      split <;> omega
    · unfold SlOk
      split
      · refine ⟨rfl, ?_⟩
        split <;> omega
      · exact .inl rfl
      · trivial
  · cases e
end

/-! ### Aggregates -/

theorem foldl_set (off : Nat) : ∀ (vs : List Value) (k : Nat) (acc : Array Value), off + k + vs.length ≤ acc.size →
    ((vs.zipIdx k).foldl (fun a (x : Value × Nat) => a.setIfInBounds (off + x.2) x.1) acc) = (acc.toList.take (off + k) ++ vs ++ acc.toList.drop (off + k + vs.length)).toArray
  | [], k, acc, h2 => by simp
  | v :: vs, k, acc, h2 => by
    simp only [List.length_cons] at h2
    simp only [List.zipIdx_cons, List.foldl_cons, List.length_cons]
    have hsz : (acc.setIfInBounds (off + k) v).size = acc.size := by simp
    have hl : (acc.setIfInBounds (off + k) v).toList = acc.toList.take (off + k) ++ v :: acc.toList.drop (off + k + 1) := by
      rw [Array.toList_setIfInBounds, List.set_eq_take_append_cons_drop, if_pos (by simp; omega)]
    rw [foldl_set off vs (k + 1) _ (by rw [hsz]; omega), hl]
    congr 1
    have hlen : (acc.toList.take (off + k)).length = off + k := by simp; omega
    have e1 : (acc.toList.take (off + k) ++ v :: acc.toList.drop (off + k + 1)).take (off + (k + 1)) = acc.toList.take (off + k) ++ [v] := by
      rw [List.take_append, hlen, List.take_of_length_le (by omega), show off + (k + 1) - (off + k) = 1 from by omega]
      rfl
    have e2 : (acc.toList.take (off + k) ++ v :: acc.toList.drop (off + k + 1)).drop (off + (k + 1) + vs.length) = acc.toList.drop (off + k + (vs.length + 1)) := by
      rw [List.drop_append, hlen, List.drop_of_length_le (by omega), show off + (k + 1) + vs.length - (off + k) = vs.length + 1 from by omega, List.nil_append, List.drop_succ_cons, List.drop_drop]
      congr 1
      omega
    rw [e1, e2]
    simp

theorem fill_sim (place : Nat → Option (Nat × Nat)) : ∀ (ps : List (Nat × Value)) (qs : List (Nat × Nat × V)) (xs : List V) (ys : Array Value) (zs : List V),
    fill xs qs = some zs → LRel β xs ys.toList → ps.length = qs.length →
    (∀ (i : Nat) (p : Nat × Value) (q : Nat × Nat × V), ps[i]? = some p → qs[i]? = some q → place p.1 = some (q.1, q.2.1) ∧ VRel β q.2.2 p.2) →
    ∃ us, Instr.fill place ys ps = some us ∧ LRel β zs us.toList
  | [], qs, xs, ys, zs, h, r, hl, hp => by
    have : qs = [] := List.eq_nil_of_length_eq_zero hl.symm
    subst this
    simp only [fill, Option.some.injEq] at h
    subst h
    exact ⟨ys, rfl, r⟩
  | p :: ps, [], xs, ys, zs, h, r, hl, hp => by simp at hl
  | (i, v') :: ps, (off, sz, v) :: qs, xs, ys, zs, h, r, hl, hp => by
    obtain ⟨hpl, hv⟩ := hp 0 _ _ rfl rfl
    dsimp only at hpl hv
    simp only [fill] at h
    split at h
    case isFalse => cases h
    rename_i hc
    obtain ⟨c0, c1, c2⟩ := hc
    have hcells := hv.cells (V.ok_ne c0).1 (V.ok_ne c0).2
    have hsz : v'.cells.size = sz := by have := hcells.1; rw [c1] at this; simpa using this.symm
    have hys : ys.size = xs.length := by have := r.1; simpa using this.symm
    have hfold := foldl_set off v'.cells.toList 0 ys (by simp [hsz, hys]; omega)
    have harr : (v'.cells.zipIdx.foldl (fun cs (x : Value × Nat) => cs.setIfInBounds (off + x.2) x.1) ys) = (ys.toList.take off ++ v'.cells.toList ++ ys.toList.drop (off + sz)).toArray := by
      rw [← Array.foldl_toList, Array.toList_zipIdx]
      simp only [Nat.add_zero, Array.length_toList, hsz] at hfold
      exact hfold
    have hrel : LRel β (xs.take off ++ v.cells ++ xs.drop (off + sz)) (ys.toList.take off ++ v'.cells.toList ++ ys.toList.drop (off + sz)) :=
      ((r.take off).append hcells).append (r.drop _)
    obtain ⟨us, hus, hr⟩ := fill_sim place ps qs _ (ys.toList.take off ++ v'.cells.toList ++ ys.toList.drop (off + sz)).toArray zs h (by simpa using hrel) (by simpa using hl)
      (fun i p q a b => hp (i + 1) p q (by simpa using a) (by simpa using b))
    refine ⟨us, ?_, hr⟩
    simp only [Instr.fill, hpl]
    rw [if_neg (by rw [hsz, hys]; simp; omega)]
    have : (v'.cells.zipIdx.foldl (fun cs (x : Value × Nat) => match x with | (c, j) => cs.setIfInBounds (off + j) c) ys) = (ys.toList.take off ++ v'.cells.toList ++ ys.toList.drop (off + sz)).toArray := harr
    rw [this]
    exact hus

end Go.A

/- Comparisons and aggregates; all operations that look at their operands alone. -/
set_option linter.unusedVariables false
set_option linter.unusedSimpArgs false
set_option linter.unusedSectionVars false
namespace Go.A

variable {P : Program} {β : Map}

theorem evEqL_append : ∀ {l m : List ETy} {X Y : List V} {r : Bool}, evEqL (l ++ m) X Y = some r →
    ∃ r1 r2, evEqL l (X.take l.length) (Y.take l.length) = some r1 ∧ evEqL m (X.drop l.length) (Y.drop l.length) = some r2 ∧ r = (r1 && r2)
  | [], m, X, Y, r, h => ⟨true, r, by simp [evEqL], by simpa using h, by simp⟩
  | t :: l, m, X, Y, r, h => by
    cases X with
    | nil => simp [evEqL] at h
    | cons x X =>
      cases Y with
      | nil => simp [evEqL] at h
      | cons y Y =>
        simp only [List.cons_append, evEqL, Option.bind_eq_some_iff] at h
        obtain ⟨a, ha, b, hb, e⟩ := h
        obtain ⟨r1, r2, h1, h2, h3⟩ := evEqL_append hb
        refine ⟨a && r1, r2, ?_, by simpa using h2, ?_⟩
        · simp [evEqL, ha, h1]
        · cases e; rw [h3, Bool.and_assoc]

theorem evEqL_len : ∀ {l : List ETy} {X Y : List V} {r : Bool}, evEqL l X Y = some r → X.length = l.length ∧ Y.length = l.length
  | [], X, Y, r, h => by cases X <;> cases Y <;> simp [evEqL] at h ⊢
  | t :: l, X, Y, r, h => by
    cases X with
    | nil => simp [evEqL] at h
    | cons x X =>
      cases Y with
      | nil => simp [evEqL] at h
      | cons y Y =>
        simp only [evEqL, Option.bind_eq_some_iff] at h
        obtain ⟨a, ha, b, hb, e⟩ := h
        have := evEqL_len hb
        simp [this.1, this.2]

/-- The value v of the type t has the cells X. -/
def Shp (P : Program) (β : Map) (t : TypeId) (X : List V) (v : Value) : Prop :=
  match isAgg? P t with
  | some true => ∃ A : Array Value, v = .agg A ∧ LRel β X A.toList
  | some false => ∃ x, X = [x] ∧ VRel β x v
  | none => False

/-- A part of a value. -/
theorem shp_part {t : TypeId} {n : Nat} (hn : sizeOf? P t = some n) {X : List V} {A : Array Value} (r : LRel β X A.toList) (off : Nat) (hle : off + n ≤ X.length)
    (h1 : isAgg? P t = some true ∨ (isAgg? P t = some false ∧ n = 1)) (w : World) :
    ∃ v, (Go.part t A off).run P w = .ok v w ∧ Shp P β t ((X.drop off).take n) v := by
  unfold Shp
  rcases h1 with h | ⟨h, rfl⟩
  · rw [h]
    refine ⟨.agg (A.extract off (off + n)), by simp [Go.part, run_isAgg h, run_sizeOf hn], _, rfl, ?_⟩
    simpa [List.take_drop] using (r.drop off).take n
  · rw [h]
    have hlt : off < X.length := by omega
    obtain ⟨v', hv, hr⟩ := r.get (List.getElem?_eq_getElem hlt)
    refine ⟨v', ?_, X[off], ?_, hr⟩
    · have : A[off]? = some v' := by simpa using hv
      simp [Go.part, run_isAgg h, this]
    · rw [List.drop_eq_getElem_cons hlt]; rfl

mutual
theorem eq_sim : ∀ (d : Nat) (t : TypeId) (ts : List ETy), ety P d t = some ts → ∀ (D : Nat), d ≤ D → ∀ (X Y : List V) (v u : Value) (r : Bool), Shp P β t X v → Shp P β t Y u →
    evEqL ts X Y = some r → ∀ w, (Op.equalIn D t v u).run P w = .ok r w
  | 0, t, ts, h, D, hD, X, Y, v, u, r, hv, hu, he, w => by simp [ety] at h
  | d + 1, t, ts, h, D, hD, X, Y, v, u, r, hv, hu, he, w => by
    obtain ⟨D, rfl⟩ : ∃ D', D = D' + 1 := ⟨D - 1, by omega⟩
    simp only [ety] at h
    have one : isAgg? P t = some false → ∀ k, ts = [k] → ∃ x y, X = [x] ∧ Y = [y] ∧ VRel β x v ∧ VRel β y u ∧ evEq k x y = some r := by
      intro ha k hk
      simp only [Shp, ha] at hv hu
      obtain ⟨x, rfl, hx⟩ := hv
      obtain ⟨y, rfl, hy⟩ := hu
      subst hk
      simp only [evEqL, Option.bind_eq_some_iff] at he
      obtain ⟨a, h1, b, h2, h3⟩ := he
      cases h2
      cases h3
      exact ⟨x, y, rfl, rfl, hx, hy, by simpa using h1⟩
    split at h
    · rename_i hu'
      cases h
      obtain ⟨x, y, -, -, hx, hy, hk⟩ := one (by simp [isAgg?, hu']) _ rfl
      unfold evEq at hk
      split at hk <;> simp_all
      rw [hx.bool_inv, hy.bool_inv]
      rw [run_equalIn_bool' w D t _ _ hu', hk]
    · rename_i k hu'
      cases h
      obtain ⟨x, y, -, -, hx, hy, hk⟩ := one (by simp [isAgg?, hu']) _ rfl
      unfold evEq at hk
      split at hk <;> simp_all
      rw [hx.int_inv, hy.int_inv]
      rw [run_equalIn_int w D t _ _ _ _ hu', hk.2]
    · rename_i hu'
      cases h
      obtain ⟨x, y, -, -, hx, hy, hk⟩ := one (by simp [isAgg?, hu']) _ rfl
      unfold evEq at hk
      split at hk <;> simp_all
      obtain ⟨z1, rfl, rfl⟩ := hx.str_inv
      obtain ⟨z2, rfl, rfl⟩ := hy.str_inv
      rw [run_equalIn_string w D t _ _ hu', ByteArray.toList_eq, ByteArray.toList_eq, hk]
    · rename_i fs hu'
      split at h
      · cases h
      rename_i hst
      have hag : isAgg? P t = some true := by simp [isAgg?, hu']
      simp only [Shp, hag] at hv hu
      obtain ⟨A, rfl, hA⟩ := hv
      obtain ⟨B, rfl, hB⟩ := hu
      have hf : P.fieldsOf t = fs := by simp [Program.fieldsOf, hu']
      rw [run_equalIn_struct w D t A B (by rw [hf]; exact hu') (by simpa using hst), hf]
      have hl := evEqL_len he
      exact eqF_sim d fs.toList 0 ts h D (by omega) X Y A B r hA hB (by simpa using he) w
    · rename_i n e hu'
      simp only [Option.bind_eq_some_iff] at h
      obtain ⟨l, hl, h⟩ := h
      split at h
      case isFalse => cases h
      rename_i hsz
      cases h
      have hag : isAgg? P t = some true := by simp [isAgg?, hu']
      simp only [Shp, hag] at hv hu
      obtain ⟨A, rfl, hA⟩ := hv
      obtain ⟨B, rfl, hB⟩ := hu
      have hsz' := hsz
      unfold sizeOf? at hsz'
      simp only [Option.map_eq_some_iff] at hsz'
      obtain ⟨i, hi, hil⟩ := hsz'
      have hco : P.cellsOf e = l.length := by simp [Program.cellsOf, hi, hil]
      have h1 : isAgg? P e = some true ∨ (isAgg? P e = some false ∧ l.length = 1) := ety_shape d e l hl
      rw [run_equalIn_array w D A B hu' hi, hco, List.range_eq_range']
      -- the items, from the k-th on
      have items : ∀ (m k : Nat) (r : Bool), k + m = n → evEqL (List.replicate m l).flatten (X.drop (k * l.length)) (Y.drop (k * l.length)) = some r →
          (Op.eqItems D e l.length A B (List.range' k m)).run P w = .ok r w := by
        intro m
        induction m with
        | zero =>
          intro k r hk h
          simp only [List.replicate_zero, List.flatten_nil] at h
          have := evEqL_len h
          have e1 : X.drop (k * l.length) = [] := List.eq_nil_of_length_eq_zero (by simpa using this.1)
          have e2 : Y.drop (k * l.length) = [] := List.eq_nil_of_length_eq_zero (by simpa using this.2)
          rw [e1, e2] at h
          simp only [evEqL, Option.some.injEq] at h
          subst h
          simp [Op.eqItems]
        | succ m ih =>
          intro k r hk h
          simp only [List.replicate_succ, List.flatten_cons] at h
          have hlen := evEqL_len h
          obtain ⟨r1, r2, h2, h3, h4⟩ := evEqL_append h
          simp only [List.length_append, List.length_drop] at hlen
          have hle1 : k * l.length + l.length ≤ X.length := by
            rcases Nat.eq_zero_or_pos l.length with z | z
            · rcases h1 with h1 | ⟨-, h1⟩
              · have hz : l = [] := List.eq_nil_of_length_eq_zero z
                rw [z]
                simp
              · omega
            · omega
          have hle2 : k * l.length + l.length ≤ Y.length := by
            rcases Nat.eq_zero_or_pos l.length with z | z
            · rw [z]; simp
            · omega
          obtain ⟨va, p1, s1⟩ := shp_part (P := P) (β := β) hsz hA (k * l.length) hle1 h1 w
          obtain ⟨vb, p2, s2⟩ := shp_part (P := P) (β := β) hsz hB (k * l.length) hle2 h1 w
          have p3 := eq_sim d e l hl D (by omega) _ _ va vb r1 s1 s2 h2 w
          rw [List.range'_succ]
          simp only [Op.eqItems, Sem.run_bind, p1, p2, p3, Result.andThen_ok]
          have h3' : evEqL (List.replicate m l).flatten (X.drop ((k + 1) * l.length)) (Y.drop ((k + 1) * l.length)) = some r2 := by
            rw [List.drop_drop, List.drop_drop] at h3
            rw [show (k + 1) * l.length = k * l.length + l.length from Nat.succ_mul _ _]
            exact h3
          have h5 := ih (k + 1) r2 (by omega) h3'
          cases r1
          · simp at h4; simp [h4]
          · simp at h4; simp [h4, h5]
      exact items n 0 r (by omega) (by simpa using he)
    · cases h
theorem eqF_sim : ∀ (d : Nat) (fs : List Field) (off : Nat) (ts : List ETy), etyF P d fs off = some ts → ∀ (D : Nat), d ≤ D → ∀ (X Y : List V) (A B : Array Value) (r : Bool),
    LRel β X A.toList → LRel β Y B.toList → evEqL ts (X.drop off) (Y.drop off) = some r → ∀ w, (Op.eqFields D A B fs).run P w = .ok r w
  | 0, fs, off, ts, h, D, hD, X, Y, A, B, r, hA, hB, he, w => by simp [etyF] at h
  | d + 1, [], off, ts, h, D, hD, X, Y, A, B, r, hA, hB, he, w => by
    simp only [etyF, Option.some.injEq] at h
    subst h
    have := evEqL_len he
    have e1 : X.drop off = [] := List.eq_nil_of_length_eq_zero (by simpa using this.1)
    have e2 : Y.drop off = [] := List.eq_nil_of_length_eq_zero (by simpa using this.2)
    rw [e1, e2] at he
    simp only [evEqL, Option.some.injEq] at he
    subst he
    simp [Op.eqFields]
  | d + 1, f :: fs, off, ts, h, D, hD, X, Y, A, B, r, hA, hB, he, w => by
    simp only [etyF] at h
    split at h
    case isTrue => cases h
    rename_i hc
    simp only [not_or, Decidable.not_not] at hc
    obtain ⟨hname, hoff⟩ := hc
    simp only [Option.bind_eq_some_iff] at h
    obtain ⟨l, hl, h⟩ := h
    split at h
    case isFalse => cases h
    rename_i hsz
    simp only [Option.bind_eq_some_iff] at h
    obtain ⟨m, hm, h⟩ := h
    cases h
    have hlen := evEqL_len he
    obtain ⟨r1, r2, h2, h3, h4⟩ := evEqL_append he
    simp only [List.length_append, List.length_drop] at hlen
    have h1 : isAgg? P f.type = some true ∨ (isAgg? P f.type = some false ∧ l.length = 1) := ety_shape d f.type l hl
    by_cases hz : l.length = 0
    · -- a field without cells
      have hle : ∀ (Z : List V), (Z.drop off).take l.length = [] := fun Z => by simp [hz]
      rcases h1 with h1 | ⟨-, h1⟩
      · have p1 : (Go.part f.type A f.offset).run P w = .ok (.agg (A.extract f.offset (f.offset + l.length))) w := by simp [Go.part, run_isAgg h1, run_sizeOf hsz]
        have p2 : (Go.part f.type B f.offset).run P w = .ok (.agg (B.extract f.offset (f.offset + l.length))) w := by simp [Go.part, run_isAgg h1, run_sizeOf hsz]
        have s : ∀ C : Array Value, Shp P β f.type [] (.agg (C.extract f.offset (f.offset + l.length))) := fun C => by
          simp only [Shp, h1]
          refine ⟨_, rfl, ?_⟩
          have : (C.extract f.offset (f.offset + l.length)).toList = [] := by simp [hz]
          rw [this]
          exact .nil
        rw [hle, hle] at h2
        have p3 := eq_sim d f.type l hl D (by omega) _ _ _ _ r1 (s A) (s B) h2 w
        have p4 := eqF_sim d fs (off + l.length) m hm D (by omega) X Y A B r2 hA hB (by rw [← List.drop_drop, ← List.drop_drop]; exact h3) w
        simp only [Op.eqFields, if_pos hname, Sem.run_bind, p1, p2, p3, Result.andThen_ok]
        cases r1
        · simp at h4; simp [h4]
        · simp at h4; simp [h4, p4]
      · omega
    · obtain ⟨va, p1, s1⟩ := shp_part (P := P) (β := β) hsz hA off (by omega) h1 w
      obtain ⟨vb, p2, s2⟩ := shp_part (P := P) (β := β) hsz hB off (by omega) h1 w
      have p3 := eq_sim d f.type l hl D (by omega) _ _ va vb r1 s1 s2 h2 w
      have p4 := eqF_sim d fs (off + l.length) m hm D (by omega) X Y A B r2 hA hB (by rw [← List.drop_drop, ← List.drop_drop]; exact h3) w
      rw [← hoff] at p1 p2
      simp only [Op.eqFields, if_pos hname, Sem.run_bind, p1, p2, p3, Result.andThen_ok]
      cases r1
      · simp at h4; simp [h4]
      · simp at h4; simp [h4, p4]
theorem ety_shape : ∀ (d : Nat) (t : TypeId) (l : List ETy), ety P d t = some l → isAgg? P t = some true ∨ (isAgg? P t = some false ∧ l.length = 1)
  | 0, t, l, h => by simp [ety] at h
  | d + 1, t, l, h => by
    simp only [ety] at h
    split at h
    · rename_i hu; cases h; right; simp [isAgg?, hu]
    · rename_i hu; cases h; right; simp [isAgg?, hu]
    · rename_i hu; cases h; right; simp [isAgg?, hu]
    · rename_i hu; left; simp [isAgg?, hu]
    · rename_i hu; left; simp [isAgg?, hu]
    · cases h
end


theorem run_mapM {α : Type} {γ : Type} (f : α → Sem γ) (g : α → γ) (w : World) : ∀ (l : List α), (∀ x, x ∈ l → (f x).run P w = .ok (g x) w) → (l.mapM f).run P w = .ok (l.map g) w
  | [], _ => by simp
  | x :: l, h => by
    have h1 := h x (by simp)
    have h2 := run_mapM f g w l fun y hy => h y (by simp [hy])
    simp [List.mapM_cons, h1, h2]

theorem run_mapMA {α : Type} {γ : Type} (f : α → Sem γ) (g : α → γ) (w : World) (l : Array α) (h : ∀ x, x ∈ l.toList → (f x).run P w = .ok (g x) w) : (l.mapM f).run P w = .ok (l.map g) w := by
  rw [Array.mapM_eq_mapM_toList]
  have e : (l.map g).toList = l.toList.map g := Array.toList_map
  simp only [Sem.run_bind, Sem.run_map, run_mapM f g w l.toList h, Result.andThen_ok, Sem.run_pure, ← e, Array.toArray_toList]

section
variable {ρ : Rho} {ρc : Operand → Value} (hρ : ∀ x y, opd x = some y → VRel β (ρ y) (ρc x))
include hρ

theorem partsS_rel {fields : Array Field} : ∀ {ps : List (Nat × Operand)} {qs : List (Nat × Nat × Opd)}, partsS P fields ps = some qs → ps.length = qs.length ∧
    ∀ (i : Nat) (p : Nat × Operand) (q : Nat × Nat × Opd), ps[i]? = some p → qs[i]? = some q → ∃ f, fields[p.1]? = some f ∧ q.1 = f.offset ∧ sizeOf? P f.type = some q.2.1 ∧ VRel β (ρ q.2.2) (ρc p.2)
  | [], qs, h => by simp [partsS] at h; subst h; exact ⟨rfl, fun i p q h => by simp at h⟩
  | (j, x) :: ps, qs, h => by
    simp only [partsS] at h
    split at h
    · rename_i f hf
      simp only [Option.bind_eq_some_iff] at h
      obtain ⟨s, hs, y, hy, l, hl, e⟩ := h
      cases e
      obtain ⟨h1, h2⟩ := partsS_rel hl
      refine ⟨by simp [h1], fun i p q a b => ?_⟩
      cases i with
      | zero => simp at a b; subst a b; exact ⟨f, hf, rfl, hs, hρ _ _ hy⟩
      | succ i => exact h2 i p q (by simpa using a) (by simpa using b)
    · cases h

theorem partsA_rel {s : Nat} : ∀ {ps : List (Nat × Operand)} {qs : List (Nat × Nat × Opd)}, partsA s ps = some qs → ps.length = qs.length ∧
    ∀ (i : Nat) (p : Nat × Operand) (q : Nat × Nat × Opd), ps[i]? = some p → qs[i]? = some q → q.1 = p.1 * s ∧ q.2.1 = s ∧ VRel β (ρ q.2.2) (ρc p.2)
  | [], qs, h => by simp [partsA] at h; subst h; exact ⟨rfl, fun i p q h => by simp at h⟩
  | (j, x) :: ps, qs, h => by
    simp only [partsA, Option.bind_eq_some_iff] at h
    obtain ⟨y, hy, l, hl, e⟩ := h
    cases e
    obtain ⟨h1, h2⟩ := partsA_rel hl
    refine ⟨by simp [h1], fun i p q a b => ?_⟩
    cases i with
    | zero => simp at a b; subst a b; exact ⟨rfl, rfl, hρ _ _ hy⟩
    | succ i => exact h2 i p q (by simpa using a) (by simpa using b)

theorem gives_buildS {t : TypeId} {fields : Array Field} {ps : Array (Nat × Operand)} {zs : List V} {qs : List (Nat × Nat × Opd)} (ht : P.underlying t = some (.struct fields)) (hz : zeros? P t = some zs)
    (hall : fields.all (fun f => (sizeOf? P f.type).isSome) = true) (hq : partsS P fields ps.toList = some qs) {v : V} (h : (POp.build zs qs).ev ρ = some v) : Gives P β ρc (.build t ps) v := by
  intro O hO w
  simp only [POp.ev, Option.map_eq_some_iff] at h
  obtain ⟨us, hf, rfl⟩ := h
  obtain ⟨z', hz1, hz2⟩ := run_zeros (β := β) hz w
  obtain ⟨hl, hp⟩ := partsS_rel hρ hq
  have hm : (fields.mapM fun f => (do pure (f.offset, ← sizeOf f.type) : Sem (Nat × Nat))).run P w = .ok (fields.map fun f => (f.offset, P.cellsOf f.type)) w := by
    refine run_mapMA _ _ w fields fun f hf => ?_
    have := Array.all_eq_true_iff_forall_mem.1 hall f (by simpa using hf)
    rw [Option.isSome_iff_exists] at this
    obtain ⟨n, hn⟩ := this
    have hc : P.cellsOf f.type = n := by
      unfold sizeOf? at hn
      unfold Program.cellsOf
      rw [hn]; rfl
    simp [run_sizeOf hn, hc]
  obtain ⟨ys, h1, h2⟩ := fill_sim (β := β) (fun i => (fields.map fun f => (f.offset, P.cellsOf f.type))[i]?) (ps.map fun (x : Nat × Operand) => (x.1, ρc x.2)).toList (qs.map fun (x : Nat × Nat × Opd) => (x.1, x.2.1, ρ x.2.2)) zs z'.cells us hf hz2 (by simp [hl])
    (fun i p q a b => by
      simp only [Array.toList_map, List.getElem?_map, Option.map_eq_some_iff] at a b
      obtain ⟨p0, a, rfl⟩ := a
      obtain ⟨q0, b, rfl⟩ := b
      obtain ⟨f, g1, g2, g3, g4⟩ := hp i p0 q0 a b
      refine ⟨?_, g4⟩
      have hc : P.cellsOf f.type = q0.2.1 := by
        unfold sizeOf? at g3
        unfold Program.cellsOf
        rw [g3]; rfl
      simp [g1, g2, hc])
  refine ⟨.agg ys, ?_, .agg' h2⟩
  have hfill : Instr.fill (fun x => (fields.map fun f => (f.offset, P.cellsOf f.type))[x]?) z'.cells (ps.map fun (x : Nat × Operand) => (x.1, ρc x.2)).toList = some ys := h1
  simp only [execOp, hO, Instr.build, Sem.run_bind, hz1, Result.andThen_ok, run_underlying ht, hm]
  rw [show (ps.map fun x => match x with | (i, x) => (i, ρc x)) = (ps.map fun (x : Nat × Operand) => (x.1, ρc x.2)) from rfl, hfill]
  simp

theorem gives_buildA {t e : TypeId} {n s : Nat} {ps : Array (Nat × Operand)} {zs : List V} {qs : List (Nat × Nat × Opd)} (ht : P.underlying t = some (.array n e)) (hz : zeros? P t = some zs)
    (hs : sizeOf? P e = some s) (hq : partsA s ps.toList = some qs) {v : V} (h : (POp.build zs qs).ev ρ = some v) : Gives P β ρc (.build t ps) v := by
  intro O hO w
  simp only [POp.ev, Option.map_eq_some_iff] at h
  obtain ⟨us, hf, rfl⟩ := h
  obtain ⟨z', hz1, hz2⟩ := run_zeros (β := β) hz w
  obtain ⟨hl, hp⟩ := partsA_rel hρ hq
  obtain ⟨ys, h1, h2⟩ := fill_sim (β := β) (fun i => some (i * s, s)) (ps.map fun (x : Nat × Operand) => (x.1, ρc x.2)).toList (qs.map fun (x : Nat × Nat × Opd) => (x.1, x.2.1, ρ x.2.2)) zs z'.cells us hf hz2 (by simp [hl])
    (fun i p q a b => by
      simp only [Array.toList_map, List.getElem?_map, Option.map_eq_some_iff] at a b
      obtain ⟨p0, a, rfl⟩ := a
      obtain ⟨q0, b, rfl⟩ := b
      obtain ⟨g1, g2, g3⟩ := hp i p0 q0 a b
      exact ⟨by simp [g1, g2], g3⟩)
  refine ⟨.agg ys, ?_, .agg' h2⟩
  simp only [execOp, hO, Instr.build, Sem.run_bind, hz1, Result.andThen_ok, run_underlying ht, run_sizeOf hs]
  rw [show (ps.map fun x => match x with | (i, x) => (i, ρc x)) = (ps.map fun (x : Nat × Operand) => (x.1, ρc x.2)) from rfl, h1]
  simp

theorem run_eq {op : BinOp} {neg : Bool} (hop : op = if neg then .neq else .eql) {t : TypeId} {x y : Operand} {a b : Value} {r : Bool} {w : World}
    (hg : (eqGuard op t x y a b).run P w = .ok () w) (hq : (Op.equal t a b).run P w = .ok r w) (hb : binOp op t a b = (do let r ← Op.equal t a b; pure (.bool (if neg then !r else r))) ) :
    ((do eqGuard op t x y a b; binOp op t a b : Sem Value)).run P w = .ok (.bool (if neg then !r else r)) w := by
  rw [Sem.run_bind, hg, Result.andThen_ok, hb]
  cases neg <;> simp [hq]

theorem bo_eq (t : TypeId) (neg : Bool) (a b : Value) (h1 : ∀ k n, a ≠ .int k n) (h2 : ∀ s, a ≠ .string s) (h3 : ∀ k n, a ≠ .float k n) (h4 : ∀ k n m, a ≠ .complex k n m) :
    binOp (if neg then .neq else .eql) t a b = (do let r ← Op.equal t a b; pure (.bool (if neg then !r else r))) := by
  cases neg
  · cases a <;> first | (exfalso; first | exact h1 _ _ rfl | exact h2 _ rfl | exact h3 _ _ rfl | exact h4 _ _ _ rfl) | (cases b <;> simp [binOp])
  · cases a <;> first | (exfalso; first | exact h1 _ _ rfl | exact h2 _ rfl | exact h3 _ _ rfl | exact h4 _ _ _ rfl) | (cases b <;> simp [binOp])

/-- What a comparison of two values takes. -/
structure EqOk (P : Program) (op : BinOp) (t : TypeId) (x y : Operand) (a b : Value) (r : Bool) (w : World) : Prop where
  guard : (eqGuard op t x y a b).run P w = .ok () w
  eq : ∀ d, 50 ≤ d → (Op.equalIn d t a b).run P w = .ok r w
  sh : (∀ k n, a ≠ .int k n) ∧ (∀ s, a ≠ .string s) ∧ (∀ k n, a ≠ .float k n) ∧ (∀ k n m, a ≠ .complex k n m)

theorem gives_eq {t t' : TypeId} {neg : Bool} {x y : Operand} {k : ETy} {x' y' : Opd} {v : V} (hk : (POp.eqv neg k x' y').ev ρ = some v)
    (hh : ∀ r, evEq k (ρ x') (ρ y') = some r → ∀ w, EqOk P (if neg then .neq else .eql) t x y (ρc x) (ρc y) r w) : Gives P β ρc (.binOp (if neg then .neq else .eql) t x y t') v := by
  intro O hO w
  simp only [POp.ev, Option.map_eq_some_iff] at hk
  obtain ⟨r, hr, rfl⟩ := hk
  obtain ⟨g1, g2, g3⟩ := hh r hr w
  refine ⟨_, ?_, .bool _⟩
  have := run_eq hρ (op := if neg then .neq else .eql) rfl g1 (g2 Op.maxDepth (by unfold Op.maxDepth; omega)) (bo_eq hρ t neg _ _ g3.1 g3.2.1 g3.2.2.1 g3.2.2.2)
  simp only [execOp, hO]
  rw [Sem.run_bind, this]
  rfl

theorem eqok_bool {t : TypeId} {op : BinOp} {x y : Operand} (hu : P.underlying t = some .bool) {a b : V} {a' b' : Value} (ha : VRel β a a') (hb : VRel β b b') {r : Bool}
    (h : evEq .bool a b = some r) (w : World) : EqOk P op t x y a' b' r w := by
  unfold evEq at h
  split at h <;> first | (cases h; done) | skip
  all_goals first
    | (rw [ha.bool_inv, hb.bool_inv]
       cases h
       refine ⟨by rw [eqGuard_at_bool]; rfl, fun d hd => ?_, by simp⟩
       obtain ⟨d, rfl⟩ : ∃ d', d = d' + 1 := ⟨d - 1, by omega⟩
       rw [run_equalIn_bool' w d t _ _ hu])
    | simp_all

theorem eqIn_iface {t : TypeId} {ms : Array (String × TypeId)} (hu : P.underlying t = some (.interface ms)) (d : Nat) (w : World) (u : TypeId) (z : Value) :
    (Op.equalIn (d + 1) t .nilIface .nilIface).run P w = .ok true w ∧ (Op.equalIn (d + 1) t .nilIface (.iface u z)).run P w = .ok false w ∧ (Op.equalIn (d + 1) t (.iface u z) .nilIface).run P w = .ok false w := by
  refine ⟨?_, ?_, ?_⟩ <;> (rw [Op.equalIn, Sem.run_bind, run_underlying hu]; rfl)

theorem eqok_iface {t : TypeId} {ms : Array (String × TypeId)} {neg : Bool} {x y : Operand} (hu : P.underlying t = some (.interface ms)) (hc : (isConst x || isConst y) = true) {a b : V} {a' b' : Value}
    (ha : VRel β a a') (hb : VRel β b b') {r : Bool} (h : evEq .iface a b = some r) (w : World) : EqOk P (if neg then .neq else .eql) t x y a' b' r w := by
  unfold evEq at h
  split at h <;> first | (cases h; done) | skip
  all_goals first
    | (rw [ha.nili_inv, hb.nili_inv]
       cases h
       refine ⟨?_, fun d hd => ?_, by simp⟩
       · have : eqGuard (if neg then .neq else .eql) t x y .nilIface .nilIface = pure () := by
           rw [Bool.or_eq_true] at hc
           rcases hc with hc | hc
           · cases x <;> simp [isConst] at hc
             rw [eqGuard_nil_constL]
           · cases y <;> simp [isConst] at hc
             rw [eqGuard_nil_constR]
         rw [this]; rfl
       · obtain ⟨d, rfl⟩ : ∃ d', d = d' + 1 := ⟨d - 1, by omega⟩
         exact (eqIn_iface hρ hu d w 0 .nilIface).1)
    | (obtain ⟨z, e, -⟩ := hb.ifc_inv
       rw [ha.nili_inv, e]
       cases h
       refine ⟨by rw [eqGuard_nil_iface]; rfl, fun d hd => ?_, by simp⟩
       obtain ⟨d, rfl⟩ : ∃ d', d = d' + 1 := ⟨d - 1, by omega⟩
       exact (eqIn_iface hρ hu d w _ _).2.1)
    | (obtain ⟨z, e, -⟩ := ha.ifc_inv
       rw [hb.nili_inv, e]
       cases h
       refine ⟨by rw [eqGuard_at_iface]; rfl, fun d hd => ?_, by simp⟩
       obtain ⟨d, rfl⟩ : ∃ d', d = d' + 1 := ⟨d - 1, by omega⟩
       exact (eqIn_iface hρ hu d w _ _).2.2)
    | simp_all

theorem eqIn_ptr {t e : TypeId} (hu : P.underlying t = some (.pointer e)) (d : Nat) (w : World) (z : Addr) :
    (Op.equalIn (d + 1) t (.pointer none) (.pointer none)).run P w = .ok true w ∧ (Op.equalIn (d + 1) t (.pointer none) (.pointer (some z))).run P w = .ok false w ∧ (Op.equalIn (d + 1) t (.pointer (some z)) (.pointer none)).run P w = .ok false w := by
  refine ⟨?_, ?_, ?_⟩ <;> (rw [Op.equalIn, Sem.run_bind, run_underlying hu]; rfl)

theorem eqok_ptr {t e : TypeId} {op : BinOp} {x y : Operand} (hu : P.underlying t = some (.pointer e)) {a b : V} {a' b' : Value} (ha : VRel β a a') (hb : VRel β b b') {r : Bool}
    (h : evEq .pn a b = some r) (w : World) : EqOk P op t x y a' b' r w := by
  unfold evEq at h
  split at h <;> first | (cases h; done) | skip
  all_goals first
    | (rw [ha.nilp_inv, hb.nilp_inv]
       cases h
       refine ⟨by rw [eqGuard_at_pointer]; rfl, fun d hd => ?_, by simp⟩
       obtain ⟨d, rfl⟩ : ∃ d', d = d' + 1 := ⟨d - 1, by omega⟩
       exact (eqIn_ptr hρ hu d w ⟨0, 0, none⟩).1)
    | (obtain ⟨z, -, e⟩ := hb.ptr_inv
       rw [ha.nilp_inv, e]
       cases h
       refine ⟨by rw [eqGuard_at_pointer]; rfl, fun d hd => ?_, by simp⟩
       obtain ⟨d, rfl⟩ : ∃ d', d = d' + 1 := ⟨d - 1, by omega⟩
       exact (eqIn_ptr hρ hu d w _).2.1)
    | (obtain ⟨z, -, e⟩ := ha.ptr_inv
       rw [hb.nilp_inv, e]
       cases h
       refine ⟨by rw [eqGuard_at_pointer]; rfl, fun d hd => ?_, by simp⟩
       obtain ⟨d, rfl⟩ : ∃ d', d = d' + 1 := ⟨d - 1, by omega⟩
       exact (eqIn_ptr hρ hu d w _).2.2)
    | simp_all

theorem eqIn_sl {t e : TypeId} (hu : P.underlying t = some (.slice e)) (d : Nat) (w : World) (z : Addr) (n c : Nat) :
    (Op.equalIn (d + 1) t (.slice none 0 0) (.slice none 0 0)).run P w = .ok true w ∧ (Op.equalIn (d + 1) t (.slice none 0 0) (.slice (some z) n c)).run P w = .ok false w ∧ (Op.equalIn (d + 1) t (.slice (some z) n c) (.slice none 0 0)).run P w = .ok false w := by
  refine ⟨?_, ?_, ?_⟩ <;> (rw [Op.equalIn, Sem.run_bind, run_underlying hu]; rfl)

theorem eqok_sl {t e : TypeId} {op : BinOp} {x y : Operand} (hu : P.underlying t = some (.slice e)) {a b : V} {a' b' : Value} (ha : VRel β a a') (hb : VRel β b b') {r : Bool}
    (h : evEq .sn a b = some r) (w : World) : EqOk P op t x y a' b' r w := by
  unfold evEq at h
  cases h

theorem eqok_map {t k e : TypeId} {op : BinOp} {x y : Operand} (hu : P.underlying t = some (.map k e)) {a b : V} {a' b' : Value} (ha : VRel β a a') (hb : VRel β b b') {r : Bool}
    (h : evEq .mn a b = some r) (w : World) : EqOk P op t x y a' b' r w := by
  unfold evEq at h
  split at h <;> first | (cases h; done) | skip
  all_goals first
    | (rw [ha.nilm_inv, hb.nilm_inv]
       cases h
       refine ⟨by rw [eqGuard_at_map]; rfl, fun d hd => ?_, by simp⟩
       obtain ⟨d, rfl⟩ : ∃ d', d = d' + 1 := ⟨d - 1, by omega⟩
       rw [Op.equalIn, Sem.run_bind, run_underlying hu]; rfl)
    | simp_all

theorem eqIn_fn {t : TypeId} {ps rs : Array TypeId} {vr : Bool} (hu : P.underlying t = some (.func ps rs vr)) (d : Nat) (w : World) (f : Fn) (a b : Array Value) :
    (Op.equalIn (d + 1) t .nilFunc .nilFunc).run P w = .ok true w ∧ (Op.equalIn (d + 1) t .nilFunc (.func f a b)).run P w = .ok false w ∧ (Op.equalIn (d + 1) t (.func f a b) .nilFunc).run P w = .ok false w := by
  refine ⟨?_, ?_, ?_⟩ <;> (rw [Op.equalIn, Sem.run_bind, run_underlying hu]; rfl)

theorem eqok_fn {t : TypeId} {ps rs : Array TypeId} {vr : Bool} {op : BinOp} {x y : Operand} (hu : P.underlying t = some (.func ps rs vr)) {a b : V} {a' b' : Value} (ha : VRel β a a') (hb : VRel β b b') {r : Bool}
    (h : evEq .fn a b = some r) (w : World) : EqOk P op t x y a' b' r w := by
  unfold evEq at h
  split at h <;> first | (cases h; done) | skip
  all_goals first
    | (rw [ha.nilf_inv, hb.nilf_inv]
       cases h
       refine ⟨by rw [eqGuard_at_nilFunc]; rfl, fun d hd => ?_, by simp⟩
       obtain ⟨d, rfl⟩ : ∃ d', d = d' + 1 := ⟨d - 1, by omega⟩
       exact (eqIn_fn hρ hu d w (.func 0) #[] #[]).1)
    | (obtain ⟨g, ys, us, e, -⟩ := hb.fn_inv
       rw [ha.nilf_inv, e]
       cases h
       refine ⟨by rw [eqGuard_at_nilFunc]; rfl, fun d hd => ?_, by simp⟩
       obtain ⟨d, rfl⟩ : ∃ d', d = d' + 1 := ⟨d - 1, by omega⟩
       exact (eqIn_fn hρ hu d w _ _ _).2.1)
    | (obtain ⟨g, ys, us, e, -⟩ := ha.fn_inv
       rw [hb.nilf_inv, e]
       cases h
       refine ⟨by rw [eqGuard_at_func]; rfl, fun d hd => ?_, by simp⟩
       obtain ⟨d, rfl⟩ : ∃ d', d = d' + 1 := ⟨d - 1, by omega⟩
       exact (eqIn_fn hρ hu d w _ _ _).2.2)
    | simp_all

theorem eqok_flat {t : TypeId} {neg : Bool} {x y : Operand} (hag : isAgg? P t = some true) (hgt : P.eqGuardType P.depth t = false) {ts : List ETy} (hts : ety P 40 t = some ts) {a b : V} {a' b' : Value}
    (ha : VRel β a a') (hb : VRel β b b') {r : Bool} (h : evEq (.flat ts) a b = some r) (w : World) : EqOk P (if neg then .neq else .eql) t x y a' b' r w := by
  have h' : ∃ xs ys, a = .agg xs ∧ b = .agg ys ∧ evEqL ts xs ys = some r := by
    cases a <;> first | (simp [evEq] at h; done) | skip
    cases b <;> first | (simp [evEq] at h; done) | skip
    exact ⟨_, _, rfl, rfl, by simpa [evEq] using h⟩
  obtain ⟨xs, ys, rfl, rfl, h⟩ := h'
  obtain ⟨A, e1, hA⟩ := ha.agg_inv
  obtain ⟨B, e2, hB⟩ := hb.agg_inv
  rw [e1, e2]
  exact ⟨run_eqGuard_agg w _ t x y A B hgt, fun d hd => eq_sim 40 t ts hts d (by omega) _ _ (.agg A) (.agg B) r (by simp only [Shp, hag]; exact ⟨A, rfl, hA⟩) (by simp only [Shp, hag]; exact ⟨B, rfl, hB⟩) h w, by simp⟩

theorem gives_eqv {t t' : TypeId} {neg : Bool} {x y : Operand} {q : POp} (hc : compEq P neg t x y = some q) {v : V} (h : q.ev ρ = some v) :
    Gives P β ρc (.binOp (if neg then .neq else .eql) t x y t') v := by
  simp only [compEq, Option.bind_eq_some_iff] at hc
  obtain ⟨x', hx, y', hy, hc⟩ := hc
  have hxx := hρ _ _ hx
  have hyy := hρ _ _ hy
  split at hc
  · cases hc; exact gives_bin hρ hx hy h
  · cases hc; exact gives_bin hρ hx hy h
  · rename_i hu
    cases hc
    exact gives_eq hρ h fun r hr w => eqok_bool hρ hu hxx hyy hr w
  · rename_i ms hu
    split at hc
    case isFalse => cases hc
    rename_i hcst
    cases hc
    exact gives_eq hρ h fun r hr w => eqok_iface hρ hu hcst hxx hyy hr w
  · rename_i e hu
    split at hc
    case isFalse => cases hc
    cases hc
    exact gives_eq hρ h fun r hr w => eqok_ptr hρ hu hxx hyy hr w
  · rename_i e hu
    cases hc
    exact gives_eq hρ h fun r hr w => eqok_sl hρ hu hxx hyy hr w
  · rename_i e e2 hu
    cases hc
    exact gives_eq hρ h fun r hr w => eqok_map hρ hu hxx hyy hr w
  · rename_i e1 e2 e3 hu
    cases hc
    exact gives_eq hρ h fun r hr w => eqok_fn hρ hu hxx hyy hr w
  · rename_i fs hu
    split at hc
    case isTrue => cases hc
    rename_i hgt
    simp only [Option.map_eq_some_iff] at hc
    obtain ⟨ts, hts, rfl⟩ := hc
    exact gives_eq hρ h fun r hr w => eqok_flat hρ (by simp [isAgg?, hu]) (by simpa using hgt) hts hxx hyy hr w
  · rename_i n e hu
    split at hc
    case isTrue => cases hc
    rename_i hgt
    simp only [Option.map_eq_some_iff] at hc
    obtain ⟨ts, hts, rfl⟩ := hc
    exact gives_eq hρ h fun r hr w => eqok_flat hρ (by simp [isAgg?, hu]) (by simpa using hgt) hts hxx hyy hr w
  · cases hc
end

end Go.A

/- All operations that look at their operands alone: one theorem. -/
set_option linter.unusedVariables false
set_option linter.unusedSimpArgs false
set_option linter.unusedSectionVars false
namespace Go.A

variable {P : Program} {β : Map}

/-- What looks at its operands alone gives in the machine what it gives in A. -/
theorem gives_P {ρ : Rho} {ρc : Operand → Value} (hρ : ∀ x y, opd x = some y → VRel β (ρ y) (ρc x)) {o : Op} {q : POp} (hc : compP P o = some q) {v : V} (h : q.ev ρ = some v) :
    Gives P β ρc o v := by
  unfold compP at hc
  split at hc
  · simp only [Option.map_eq_some_iff] at hc
    obtain ⟨y, hy, rfl⟩ := hc
    simp only [POp.ev, Option.some.injEq] at h
    subst h
    exact (gives_mv hρ hy).1
  · simp only [Option.map_eq_some_iff] at hc
    obtain ⟨y, hy, rfl⟩ := hc
    simp only [POp.ev, Option.some.injEq] at h
    subst h
    exact (gives_mv hρ hy).2
  · simp only [Option.bind_eq_some_iff, Option.map_eq_some_iff] at hc
    obtain ⟨c, hc, a, ha, b, hb, rfl⟩ := hc
    exact gives_pick hρ hc ha hb h
  · simp only [Option.bind_eq_some_iff] at hc
    obtain ⟨zs, hz, hc⟩ := hc
    split at hc
    · rename_i fields ht
      split at hc
      case isFalse => cases hc
      rename_i hall
      simp only [Option.map_eq_some_iff] at hc
      obtain ⟨l, hl, rfl⟩ := hc
      exact gives_buildS hρ ht hz hall hl h
    · rename_i n e ht
      simp only [Option.bind_eq_some_iff, Option.map_eq_some_iff] at hc
      obtain ⟨s, hs, l, hl, rfl⟩ := hc
      exact gives_buildA hρ ht hz hs hl h
    · cases hc
  · simp only [Option.map_eq_some_iff] at hc
    obtain ⟨y, hy, rfl⟩ := hc
    exact gives_nilck hρ hy h
  · exact gives_eqv (neg := false) hρ hc h
  · exact gives_eqv (neg := true) hρ hc h
  · simp only [Option.bind_eq_some_iff, Option.map_eq_some_iff] at hc
    obtain ⟨a, ha, b, hb, rfl⟩ := hc
    exact gives_bin hρ ha hb h
  · simp only [Option.map_eq_some_iff] at hc
    obtain ⟨y, hy, rfl⟩ := hc
    exact gives_un hρ hy h
  · split at hc
    · rename_i ds k hs hd
      simp only [Option.map_eq_some_iff] at hc
      obtain ⟨y, hy, rfl⟩ := hc
      exact gives_conv hρ hd hy h ⟨_, hs⟩
    · cases hc
  · split at hc
    · cases hc
    · rename_i d hn ht
      simp only [Option.map_eq_some_iff] at hc
      obtain ⟨y, hy, rfl⟩ := hc
      simp only [POp.ev, Option.some.injEq] at h
      subst h
      exact gives_mkif hρ ht (fun ms e => hn ms e) hy
    · cases hc
  · split at hc
    · cases hc
    rename_i hy
    simp only [Option.bind_eq_some_iff, Option.map_eq_some_iff] at hc
    obtain ⟨a, ha, b, hb, rfl⟩ := hc
    simp only [POp.ev, Option.some.injEq] at h
    subst h
    exact gives_mkfn hρ (by simpa using hy) ha hb
  · rename_i t0 x0 lo0 hi0 mx0
    simp only [Option.bind_eq_some_iff] at hc
    obtain ⟨a, ha, l, hl, hi, hh, m, hm, hc⟩ := hc
    split at hc
    · rename_i ht
      split at hc
      · rename_i hn
        cases hc
        have hmx : mx0 = none := by
          cases mx0 with
          | none => rfl
          | some z =>
            simp only [opdO, Option.map_eq_some_iff] at hm
            obtain ⟨z, -, rfl⟩ := hm
            simp at hn
        subst hmx
        exact gives_slStr hρ ht ha hl hh h
      · cases hc
    · rename_i e ht
      simp only [Option.map_eq_some_iff] at hc
      obtain ⟨s, hs, rfl⟩ := hc
      exact gives_slSl hρ ht hs ha hl hh hm h
    · rename_i n e ht
      simp only [Option.map_eq_some_iff] at hc
      obtain ⟨s, hs, rfl⟩ := hc
      exact gives_slArr hρ (.inl ht) hs ha hl hh hm h
    · rename_i arr ht
      split at hc
      · rename_i n e ht2
        simp only [Option.map_eq_some_iff] at hc
        obtain ⟨s, hs, rfl⟩ := hc
        exact gives_slArr hρ (.inr ⟨arr, ht, ht2⟩) hs ha hl hh hm h
      · cases hc
    · cases hc
  · split at hc
    · rename_i fields ht
      split at hc
      · rename_i fd hf
        split at hc
        case isFalse => cases hc
        rename_i hsz
        simp only [Option.map_eq_some_iff] at hc
        obtain ⟨a, ha, rfl⟩ := hc
        cases hn : sizeOf? P fd.type with
        | none => rw [hn] at hsz; simp at hsz
        | some n => rw [hn] at hsz; exact gives_fieldA hρ ht hf hn (by simpa using hsz) ha h
      · cases hc
    · cases hc
  · split at hc
    · rename_i fields ht
      split at hc
      · rename_i fd hf
        simp only [Option.bind_eq_some_iff, Option.map_eq_some_iff] at hc
        obtain ⟨z, hz, a, ha, rfl⟩ := hc
        exact gives_field hρ ht hf hz ha h
      · cases hc
    · cases hc
  · simp only [Option.bind_eq_some_iff] at hc
    obtain ⟨a, ha, b, hb, hc⟩ := hc
    split at hc
    · rename_i n e ht
      simp only [Option.map_eq_some_iff] at hc
      obtain ⟨s, hs, rfl⟩ := hc
      exact gives_idxA hρ ht hs ha hb h
    · rename_i e ht
      simp only [Option.map_eq_some_iff] at hc
      obtain ⟨s, hs, rfl⟩ := hc
      exact gives_idxS hρ ht hs ha hb h
    · cases hc
  · simp only [Option.bind_eq_some_iff] at hc
    obtain ⟨a, ha, b, hb, hc⟩ := hc
    split at hc
    · rename_i n e ht
      simp only [Option.bind_eq_some_iff, Option.map_eq_some_iff] at hc
      obtain ⟨s, hs, z, hz, rfl⟩ := hc
      exact gives_idx hρ ht hs hz ha hb h
    · rename_i ht
      cases hc
      exact gives_idxStr hρ ht ha hb h
    · cases hc
  · split at hc
    · cases hc
    · rename_i d hn ht
      simp only [Option.bind_eq_some_iff, Option.map_eq_some_iff] at hc
      obtain ⟨a, ha, z, hz, rfl⟩ := hc
      exact gives_asrt hρ ht (fun ms e => hn ms e) hz ha h
    · cases hc
  · simp only [Option.map_eq_some_iff] at hc
    obtain ⟨a, ha, rfl⟩ := hc
    exact gives_ext hρ ha h
  · split at hc
    · rename_i n e ht
      split at hc
      · cases hc
      · rename_i h0
        simp only [Option.map_eq_some_iff] at hc
        obtain ⟨a, ha, rfl⟩ := hc
        exact gives_s2a hρ ht ha h h0
    · cases hc
  · split at hc
    · rename_i x t ha hty
      split at hc
      · rename_i ht
        simp only [Option.map_eq_some_iff] at hc
        obtain ⟨y, hy, rfl⟩ := hc
        exact gives_lenT hρ ha hty ht hy h
      · rename_i e ht
        simp only [Option.map_eq_some_iff] at hc
        obtain ⟨y, hy, rfl⟩ := hc
        exact gives_lenS hρ ha hty ht hy h
      · rename_i n e ht
        cases hc
        simp only [POp.ev, Option.some.injEq] at h
        subst h
        exact gives_lenK hρ ha hty ht
      · cases hc
    · cases hc
  · simp only [Option.map_eq_some_iff] at hc
    obtain ⟨l, hl, rfl⟩ := hc
    exact gives_mm (isMax := false) hρ hl h
  · simp only [Option.map_eq_some_iff] at hc
    obtain ⟨l, hl, rfl⟩ := hc
    exact gives_mm (isMax := true) hρ hl h
  · cases hc

theorem gives_S {ρ : Rho} {ρc : Operand → Value} (hρ : ∀ x y, opd x = some y → VRel β (ρ y) (ρc x)) {o : Op} {q : POp} (hc : compS P o = some q) {v : V} (h : q.ev ρ = some v) :
    Gives P β ρc o v := by
  unfold compS at hc
  split at hc
  · split at hc
    · rename_i hs hd
      simp only [Option.map_eq_some_iff] at hc
      obtain ⟨y, hy, rfl⟩ := hc
      exact gives_retag hρ hd hy h ⟨_, hs⟩
    · cases hc
  · cases hc

end Go.A

/- Memory: what is read, made and written in A is read, made and written in the machine. -/
set_option linter.unusedVariables false
set_option linter.unusedSimpArgs false
set_option linter.unusedSectionVars false
namespace Go.A

variable {P : Program} {CR : Nat → Code → ACode → Prop} {β : Map} {h : Heap} {w : World}

def upd (β : Map) (b : Nat) (bi : BI) : Map := fun i => if i = b then some bi else β i

theorem upd_le {b : Nat} {bi : BI} (hb : β b = none) : β.le (upd β b bi) := by
  intro i x hi
  unfold upd
  by_cases e : i = b
  · subst e; rw [hb] at hi; cases hi
  · rw [if_neg e]; exact hi

theorem upd_self (b : Nat) (bi : BI) : upd β b bi b = some bi := by simp [upd]

theorem HRel.fresh (r : HRel P CR β h w) : β h.length = none := by
  cases e : β h.length with
  | none => rfl
  | some bi => have := (r.dom _ _ e).1; omega

theorem BRel.mono {β' : Map} (hb : β.le β') {bi : BI} {blk : Blk} {o : Obj} (r : BRel P CR β bi blk o) : BRel P CR β' bi blk o := by
  cases blk with
  | dead => trivial
  | cells m cs =>
    obtain ⟨c, e, fr, h1, h2, h3, h4, h5⟩ := r
    exact ⟨c, e, fr, h1, h2, h3, fun i v v' a b => (h4 i v v' a b).mono hb, h5⟩
  | dfl => exact r
  | loop st pend env ps asg body =>
    obtain ⟨L, h1, h2, h3, h4, h7, h8, h5, h6⟩ := r
    exact ⟨L, h1, h2, h3, h4, h7, h8, fun i => (h5 i).mono hb, h6⟩

/-- The same memory, but for draws. -/
structure Alike (w w' : World) : Prop where
  os : w'.os = w.os
  tape : w'.tape = w.tape
  output : w'.output = w.output
  heap : w'.heap = w.heap

theorem Alike.refl (w : World) : Alike w w := ⟨rfl, rfl, rfl, rfl⟩

/-- A new block. -/
structure Pushed (w w' : World) (o : Obj) : Prop where
  os : w'.os = w.os
  tape : w'.tape = w.tape
  output : w'.output = w.output
  heap : w'.heap = w.heap.push o

theorem Pushed.alloc (w : World) (o : Obj) : Pushed w (w.alloc o) o := ⟨rfl, rfl, rfl, rfl⟩

theorem push_get (a : Array Obj) (o : Obj) (i : Nat) : (a.push o)[i]? = if i = a.size then some o else a[i]? := Array.getElem?_push

/-- A new block in A and in memory. -/
theorem HRel.push (r : HRel P CR β h w) {w' : World} {o : Obj} (hp : Pushed w w' o) {blk : Blk} {md : Md} {csz : Nat}
    (hb : BRel P CR (upd β h.length ⟨w.heap.size, 0, md, csz⟩) ⟨w.heap.size, 0, md, csz⟩ blk o) :
    HRel P CR (upd β h.length ⟨w.heap.size, 0, md, csz⟩) (h ++ [blk]) w' ∧ Stp β h w (upd β h.length ⟨w.heap.size, 0, md, csz⟩) (h ++ [blk]) w' := by
  have hfr := r.fresh
  have hle : β.le (upd β h.length ⟨w.heap.size, 0, md, csz⟩) := upd_le hfr
  have hsz : w'.heap.size = w.heap.size + 1 := by rw [hp.heap]; simp
  have lookup : ∀ b bi, upd β h.length ⟨w.heap.size, 0, md, csz⟩ b = some bi → (b = h.length ∧ bi = ⟨w.heap.size, 0, md, csz⟩) ∨ (b < h.length ∧ β b = some bi) := by
    intro b bi e
    unfold upd at e
    by_cases hbb : b = h.length
    · rw [if_pos hbb] at e; cases e; exact .inl ⟨hbb, rfl⟩
    · rw [if_neg hbb] at e; exact .inr ⟨(r.dom _ _ e).1, e⟩
  have hget : ∀ b, b < h.length → (h ++ [blk])[b]? = h[b]? := fun b hb => List.getElem?_append_left hb
  have hlast : (h ++ [blk])[h.length]? = some blk := by simp
  refine ⟨⟨?_, ?_, ?_⟩, ⟨⟨hle, hp.os, hp.tape, hp.output, by omega, by simp, ?_, ?_, ?_, ?_, ?_⟩, ?_⟩⟩
  · intro b bi e
    rcases lookup b bi e with ⟨h1, h2⟩ | ⟨h1, h2⟩
    · subst h1 h2; exact ⟨by simp, by rw [hsz]; simp⟩
    · have := (r.dom _ _ h2).2; exact ⟨by simp; omega, by omega⟩
  · intro b bi bk e1 e2 hl
    rcases lookup b bi e1 with ⟨h1, h2⟩ | ⟨h1, h2⟩
    · subst h1 h2
      rw [hlast] at e2
      cases e2
      exact ⟨o, by rw [hp.heap, push_get, if_pos rfl], hb⟩
    · rw [hget b h1] at e2
      obtain ⟨o', ho, hr⟩ := r.blk b bi bk h2 e2 hl
      have := (r.dom _ _ h2).2
      exact ⟨o', by rw [hp.heap, push_get, if_neg (by omega)]; exact ho, hr.mono hle⟩
  · intro b b' bi bi' bk bk' hne e1 e2 e3 e4 hw hl
    rcases lookup b bi e1 with ⟨h1, h2⟩ | ⟨h1, h2⟩ <;> rcases lookup b' bi' e2 with ⟨h3, h4⟩ | ⟨h3, h4⟩
    · omega
    · subst h2; have := (r.dom _ _ h4).2; simp; omega
    · subst h4; have := (r.dom _ _ h2).2; simp; omega
    · rw [hget b h1] at e3; rw [hget b' h3] at e4
      exact r.uniq b b' bi bi' bk bk' hne h2 h4 e3 e4 hw hl
  · intro b bi hb' e
    rcases lookup b bi e with ⟨h1, h2⟩ | ⟨h1, h2⟩
    · omega
    · exact h2
  · intro B hB _
    rw [hp.heap, push_get, if_neg (by omega)]
  · rintro B ⟨b, bi, bk, e1, e2, e3, rfl⟩
    rcases lookup b bi e1 with ⟨h1, h2⟩ | ⟨h1, h2⟩
    · subst h2; exact .inr (Nat.le_refl _)
    · rw [hget b h1] at e2
      exact .inl ⟨b, bi, bk, h2, e2, e3, rfl⟩
  · intro b bi e
    rcases lookup b bi e with ⟨h1, h2⟩ | ⟨h1, h2⟩
    · subst h2; exact .inr (.inr (Nat.le_refl _))
    · exact .inl h2
  · intro b bk hb' e hl
    rw [hget b hb'] at e
    exact ⟨bk, e, hl⟩
  · intro tot b bk e hl
    by_cases hbb : b = h.length
    · exact ⟨_, by rw [hbb]; exact upd_self _ _⟩
    · have hlt : b < h.length := by have := (List.getElem?_eq_some_iff.1 e).1; simp at this; omega
      rw [hget b hlt] at e
      obtain ⟨bi, hbi⟩ := tot b bk e hl
      exact ⟨bi, hle _ _ hbi⟩

/-- One block is another one now. -/
theorem HRel.set (r : HRel P CR β h w) {b : Nat} {bi : BI} {old blk : Blk} (hbi : β b = some bi) (hold : h[b]? = some old) (hwr : old.wr = true) (hlive : blk.live = true) {w' : World} {o : Obj}
    (hos : w'.os = w.os) (htape : w'.tape = w.tape) (hout : w'.output = w.output) (hsz : w'.heap.size = w.heap.size) (hat : w'.heap[bi.blk]? = some o)
    (hother : ∀ k, k ≠ bi.blk → w'.heap[k]? = w.heap[k]?) (hb : BRel P CR β bi blk o) :
    HRel P CR β (h.set b blk) w' ∧ Stp β h w β (h.set b blk) w' := by
  have hlt : b < h.length := (List.getElem?_eq_some_iff.1 hold).1
  have hget : ∀ c, c ≠ b → (h.set b blk)[c]? = h[c]? := fun c hc => by rw [List.getElem?_set_ne (by omega)]
  have hset : (h.set b blk)[b]? = some blk := by rw [List.getElem?_set_self hlt]
  refine ⟨⟨?_, ?_, ?_⟩, ⟨⟨Map.le.refl _, hos, htape, hout, by omega, by simp, fun _ _ _ e => e, ?_, ?_, fun _ _ e => .inl e, ?_⟩, ?_⟩⟩
  · intro c ci e
    have := r.dom _ _ e
    exact ⟨by simpa using this.1, by omega⟩
  · intro c ci ck e1 e2 hl
    by_cases hc : c = b
    · subst hc
      rw [hbi] at e1; cases e1
      rw [hset] at e2; cases e2
      exact ⟨o, hat, hb⟩
    · rw [hget c hc] at e2
      obtain ⟨o', ho, hr⟩ := r.blk c ci ck e1 e2 hl
      have := r.uniq b c bi ci old ck (fun e => hc e.symm) hbi e1 hold e2 hwr hl
      exact ⟨o', by rw [hother _ (fun e => this e.symm)]; exact ho, hr⟩
  · intro c c' ci ci' ck ck' hne e1 e2 e3 e4 hw hl
    by_cases hc : c = b
    · subst hc
      rw [hget c' (fun e => hne e.symm)] at e4
      rw [hbi] at e1; cases e1
      exact r.uniq c c' bi ci' old ck' hne hbi e2 hold e4 hwr hl
    · by_cases hc' : c' = b
      · subst hc'
        rw [hget c hc] at e3
        rw [hbi] at e2; cases e2
        exact r.uniq c c' ci bi ck old hne e1 hbi e3 hold hw (Blk.wr_live hwr)
      · rw [hget c hc] at e3; rw [hget c' hc'] at e4
        exact r.uniq c c' ci ci' ck ck' hne e1 e2 e3 e4 hw hl
  · intro B hB hn
    refine hother B fun e => hn ⟨b, bi, old, hbi, hold, hwr, e.symm⟩
  · rintro B ⟨c, ci, ck, e1, e2, e3, rfl⟩
    left
    by_cases hc : c = b
    · subst hc
      rw [hbi] at e1; cases e1
      exact ⟨c, bi, old, hbi, hold, hwr, rfl⟩
    · rw [hget c hc] at e2
      exact ⟨c, ci, ck, e1, e2, e3, rfl⟩
  · intro c ck _ e hl
    by_cases hc : c = b
    · subst hc; exact ⟨old, hold, Blk.wr_live hwr⟩
    · rw [hget c hc] at e; exact ⟨ck, e, hl⟩
  · intro tot c ck e hl
    by_cases hc : c = b
    · subst hc; exact ⟨bi, hbi⟩
    · rw [hget c hc] at e; exact tot c ck e hl

/-- Draws alone. -/
theorem HRel.alike (r : HRel P CR β h w) {w' : World} (ha : Alike w w') : HRel P CR β h w' ∧ Stp β h w β h w' := by
  refine ⟨⟨fun b bi e => by rw [ha.heap]; exact r.dom b bi e, fun b bi bk e1 e2 hl => by rw [ha.heap]; exact r.blk b bi bk e1 e2 hl, r.uniq⟩,
    ⟨⟨Map.le.refl _, ha.os, ha.tape, ha.output, by rw [ha.heap]; exact Nat.le_refl _, Nat.le_refl _, fun _ _ _ e => e, fun _ _ _ => by rw [ha.heap], fun _ e => .inl e, fun _ _ e => .inl e, fun _ _ _ e l => ⟨_, e, l⟩⟩, id⟩⟩

/-- A block is not known any more. -/
theorem HRel.kill (r : HRel P CR β h w) {b : Nat} (old : Blk) (hold : h[b]? = some old) : HRel P CR β (h.set b .dead) w := by
  have hlt : b < h.length := (List.getElem?_eq_some_iff.1 hold).1
  have hset : (h.set b .dead)[b]? = some .dead := by rw [List.getElem?_set_self hlt]
  have hget : ∀ {c ck}, (h.set b .dead)[c]? = some ck → ck.live = true → c ≠ b ∧ h[c]? = some ck := by
    intro c ck e hl
    by_cases hc : c = b
    · subst hc; rw [hset] at e; cases e; cases hl
    · rw [List.getElem?_set_ne (by omega)] at e; exact ⟨hc, e⟩
  refine ⟨fun c ci e => by simpa using r.dom c ci e, fun c ci ck e1 e2 hl => r.blk c ci ck e1 (hget e2 hl).2 hl, ?_⟩
  intro c c' ci ci' ck ck' hne e1 e2 e3 e4 hw hl
  exact r.uniq c c' ci ci' ck ck' hne e1 e2 (hget e3 (Blk.wr_live hw)).2 (hget e4 hl).2 hw hl

/-! ### Reading -/

/-- The cells of a block. -/
theorem HRel.cells (r : HRel P CR β h w) {b : Nat} {bi : BI} {m : Md} {cs : List V} (hbi : β b = some bi) (hb : h[b]? = some (.cells m cs)) :
    ∃ c e fr, w.heap[bi.blk]? = some (.cells c e fr) ∧ c.size = bi.csz ∧ bi.off + cs.length ≤ c.size ∧ LRel β cs ((c.toList.drop bi.off).take cs.length) ∧ (m ≠ .ro → bi.md = m ∧ (fr.1 = fr.2 ∨ bi.csz ≤ fr.1)) := by
  obtain ⟨o, ho, c, e, fr, rfl, h2, h3, h4, h5⟩ := r.blk b bi _ hbi hb rfl
  refine ⟨c, e, fr, ho, h2, h3, ⟨by simp; omega, fun i v v' a b => ?_⟩, h5⟩
  rw [List.getElem?_take] at b
  split at b
  · rw [List.getElem?_drop] at b
    exact h4 i v v' a (by simpa using b)
  · cases b

theorem cell_at {g : Nat} {c : Array Value} {e : TypeId} {fr : Nat × Nat} (hg : w.heap[g]? = some (.cells c e fr)) (o : Nat) : w.cell? ⟨g, o, none⟩ = c[o]? := by
  simp [World.cell?, hg]

theorem HRel.cell (r : HRel P CR β h w) {b o : Nat} {bi : BI} {cs : List V} {v : V} (hbi : β b = some bi) (hb : cellsAt h b = some cs) (hv : cs[o]? = some v) :
    ∃ v', w.cell? ⟨bi.blk, bi.off + o, none⟩ = some v' ∧ VRel β v v' := by
  unfold cellsAt at hb
  split at hb
  · rename_i m cs' hb'
    cases hb
    obtain ⟨c, e, fr, hg, h2, h3, h4, -⟩ := r.cells hbi hb'
    obtain ⟨v', h5, h6⟩ := h4.get hv
    have hlt : o < cs.length := (List.getElem?_eq_some_iff.1 hv).1
    rw [List.getElem?_take, if_pos hlt, List.getElem?_drop] at h5
    exact ⟨v', by rw [cell_at hg]; simpa using h5, h6⟩
  · cases hb

theorem HRel.readN (r : HRel P CR β h w) {b o n : Nat} {bi : BI} {xs : List V} (hbi : β b = some bi) (hr : readN h b o n = some xs) (hn : xs.length = n → True) :
    ∃ ys : List Value, (loadCells ⟨bi.blk, bi.off + o, none⟩ n).run P w = .ok ys.toArray w ∧ LRel β xs ys ∧ ys.length = n := by
  unfold A.readN at hr
  simp only [Option.bind_eq_some_iff] at hr
  obtain ⟨cs, hc, hr⟩ := hr
  split at hr
  case isFalse => cases hr
  rename_i hle
  cases hr
  unfold cellsAt at hc
  split at hc
  case h_2 => cases hc
  rename_i m cs' hb'
  cases hc
  obtain ⟨c, e, fr, hg, h2, h3, h4, -⟩ := r.cells hbi hb'
  have hrel := (h4.drop o).take n
  have hl : (((((c.toList.drop bi.off).take cs.length).drop o).take n)).length = n := by
    rw [← hrel.1]; simp; omega
  refine ⟨_, ?_, hrel, hl⟩
  have := run_loadCells_list (P := P) w ⟨bi.blk, bi.off + o, none⟩ (((((c.toList.drop bi.off).take cs.length).drop o).take n)) (fun j v hv => by
    rw [Addr.add_lit, cell_at hg]
    rw [List.getElem?_take] at hv
    split at hv
    · rw [List.getElem?_drop, List.getElem?_take] at hv
      split at hv
      · rw [List.getElem?_drop] at hv
        rw [← hv]
        simp [Nat.add_assoc]
      · cases hv
    · cases hv)
  rw [hl] at this
  exact this

/-- What reads gives in the machine what it gives in A. -/
def GivesR (P : Program) (β : Map) (ρc : Operand → Value) (o : Op) (w : World) (v : V) : Prop :=
  ∀ O : Oper, O.op = o → ∃ v', (execOp ρc O).run P w = .ok (.value v') w ∧ VRel β v v'

theorem bytes_rel : ∀ {xs : List V} {ys : List Value} {l : List UInt8}, bytesOf xs = some l → LRel β xs ys → ∃ ns : List Int, ys = ns.map (Value.int .u8) ∧ ns.map (fun n => UInt8.ofNat n.toNat) = l
  | [], ys, l, h, r => by simp [bytesOf] at h; subst h; exact ⟨[], by rw [r.inv_nil]; rfl, rfl⟩
  | x :: xs, ys, l, h, r => by
    obtain ⟨y, ys', rfl, hx, hr⟩ := r.inv_cons
    unfold bytesOf at h
    split at h
    · rename_i e; cases e
    · rename_i n r' e
      cases e
      simp only [Option.map_eq_some_iff] at h
      obtain ⟨l', hl, rfl⟩ := h
      obtain ⟨ns, e1, e2⟩ := bytes_rel hl hr
      exact ⟨n :: ns, by rw [hx.int_inv, e1]; rfl, by simp [e2]⟩
    · cases h

theorem foldl_push : ∀ (ns : List Int) (s : ByteArray), (ns.foldl (fun r n => r.push (UInt8.ofNat n.toNat)) s).data.toList = s.data.toList ++ ns.map (fun n => UInt8.ofNat n.toNat)
  | [], s => by simp
  | n :: ns, s => by
    simp only [List.foldl_cons, List.map_cons]
    rw [foldl_push ns]
    simp [ByteArray.push]

theorem szOf_none {t : TypeId} (hs : szOf P t = some none) : isAgg? P t = some false := by
  unfold szOf at hs
  split at hs
  · simp at hs
  · assumption
  · cases hs

theorem szOf_some {t : TypeId} {n : Nat} (hs : szOf P t = some (some n)) : isAgg? P t = some true ∧ sizeOf? P t = some n := by
  unfold szOf at hs
  split at hs
  · simp only [Option.map_eq_some_iff, Option.some.injEq] at hs
    obtain ⟨m, hm, rfl⟩ := hs
    exact ⟨‹_›, hm⟩
  · cases hs
  · cases hs

theorem gives_R (r : HRel P CR β h w) {ρ : Rho} {ρc : Operand → Value} (hρ : ∀ x y, opd x = some y → VRel β (ρ y) (ρc x)) {o : Op} {q : ROp} (hc : compR P o = some q) {v : V} (hv : q.ev ρ h = some v) :
    GivesR P β ρc o w v := by
  unfold compR at hc
  split at hc
  · rename_i t a
    simp only [Option.bind_eq_some_iff, Option.map_eq_some_iff] at hc
    obtain ⟨z, hz, a', ha, rfl⟩ := hc
    have haa := hρ _ _ ha
    intro O hO
    cases z with
    | none =>
      simp only [ROp.ev] at hv
      generalize ρ a' = va at hv haa
      split at hv
      · obtain ⟨bi, hbi, e⟩ := haa.ptr_inv
        simp only [Option.bind_eq_some_iff] at hv
        obtain ⟨cs, h1, h2⟩ := hv
        obtain ⟨v', h3, h4⟩ := r.cell hbi h1 h2
        refine ⟨v', ?_, h4⟩
        simp [execOp, hO, e, Instr.loadAt, Instr.sureAddr, loadVar, run_isAgg (szOf_none hz), h3]
      · cases hv
    | some n =>
      simp only [ROp.ev] at hv
      generalize ρ a' = va at hv haa
      obtain ⟨g1, g2⟩ := szOf_some hz
      split at hv
      · obtain ⟨bi, hbi, e⟩ := haa.ptr_inv
        simp only [Option.map_eq_some_iff] at hv
        obtain ⟨xs, h1, rfl⟩ := hv
        obtain ⟨ys, h2, h3, -⟩ := r.readN hbi h1 (fun _ => trivial)
        refine ⟨.agg ys.toArray, ?_, .agg' (by simpa using h3)⟩
        simp [execOp, hO, e, Instr.loadAt, Instr.sureAddr, loadVar, run_isAgg g1, run_sizeOf g2, h2]
      · cases hv
  · split at hc
    · rename_i e hs hd
      split at hc
      · rename_i he
        simp only [Option.map_eq_some_iff] at hc
        obtain ⟨x', hx, rfl⟩ := hc
        have hxx := hρ _ _ hx
        intro O hO
        simp only [ROp.ev] at hv
        generalize ρ x' = vx at hv hxx
        split at hv
        · obtain ⟨a0, e'⟩ := hxx.nils_inv
          cases hv
          refine ⟨.string .empty, ?_, .str .empty⟩
          cases a0 <;> simp [execOp, hO, e', run_convert_bytes_string w _ _ e _ 0 0 hs he hd, Conv.bytesToString, loadCells, loadCellsFrom]
        · rename_i ee b o n c
          obtain ⟨bi, o', cc, hb, e', hn, hcc, ho, -⟩ := hxx.sl_inv
          simp only [Option.map_eq_some_iff, Option.bind_eq_some_iff] at hv
          obtain ⟨l, ⟨xs, h1, h2⟩, rfl⟩ := hv
          obtain ⟨ys, h3, h4, h5⟩ := r.readN hb h1 (fun _ => trivial)
          obtain ⟨ns, rfl, h6⟩ := bytes_rel h2 h4
          have h3' : (loadCells ⟨bi.blk, o', none⟩ n).run P w = .ok (ns.map (Value.int .u8)).toArray w := by
            by_cases hz : c = 0
            · have : n = 0 := by omega
              subst this
              have : ns = [] := by simpa using h5
              subst this
              rfl
            · rw [ho hz]; exact h3
          have h7 := foldl_push ns ByteArray.empty
          rw [h6] at h7
          have e2 : l = (ns.foldl (fun r n => r.push (UInt8.ofNat n.toNat)) ByteArray.empty).data.toList := by rw [h7]; rfl
          refine ⟨.string (ns.foldl (fun r n => r.push (UInt8.ofNat n.toNat)) ByteArray.empty), ?_, by rw [e2]; exact .str _⟩
          · simp [execOp, hO, e', run_convert_bytes_string w _ _ e (some ⟨bi.blk, o', none⟩) n cc hs he hd, run_bytesToString w ⟨bi.blk, o', none⟩ n cc ns h3']
        · cases hv
      · cases hc
    · cases hc
  · cases hc

end Go.A

/- Memory: what is made and written in A is made and written in the machine. -/
set_option linter.unusedVariables false
set_option linter.unusedSimpArgs false
set_option linter.unusedSectionVars false
namespace Go.A

variable {P : Program} {CR : Nat → Code → ACode → Prop} {β : Map} {h : Heap} {w : World}

/-- What makes one block. -/
def GivesN (P : Program) (CR : Nat → Code → ACode → Prop) (β : Map) (ρc : Operand → Value) (o : Op) (blk : Blk) (vf : Nat → V) : Prop :=
  ∀ O : Oper, O.op = o → ∀ w, ∃ v' w' obj md csz, (execOp ρc O).run P w = .ok (.value v') w' ∧ Pushed w w' obj ∧
    ∀ b, β b = none → BRel P CR (upd β b ⟨w.heap.size, 0, md, csz⟩) ⟨w.heap.size, 0, md, csz⟩ blk obj ∧ VRel (upd β b ⟨w.heap.size, 0, md, csz⟩) (vf b) v'

theorem brel_new {β' : Map} {bi : BI} (hoff : bi.off = 0) {m : Md} (hm : bi.md = m) {cs : List V} {c : Array Value} {e : TypeId} {fr : Nat × Nat} (hc : bi.csz = c.size) (hle : cs.length ≤ c.size)
    (hr : ∀ (i : Nat) (v : V) (v' : Value), cs[i]? = some v → c[i]? = some v' → VRel β' v v') (hf : fr.1 = fr.2 ∨ c.size ≤ fr.1) : BRel P CR β' bi (.cells m cs) (.cells c e fr) :=
  ⟨c, e, fr, rfl, hc.symm, by omega, fun i v v' a b => hr i v v' a (by rw [hoff] at b; simpa using b), fun _ => ⟨hm, by rw [hc]; exact hf⟩⟩

theorem rep_rel {xs : List V} {ys : List Value} (r : LRel β xs ys) (n : Nat) : LRel β (rep n xs) (List.replicate n ys).flatten := r.flatten

theorem flatten_get {α : Type} (d : α) (ys : List α) (hne : ys ≠ []) : ∀ (n i : Nat), i < n * ys.length → (List.replicate n ys).flatten[i]? = ys[i % ys.length]?
  | 0, i, h => by simp at h
  | n + 1, i, h => by
    have hpos : 0 < ys.length := List.length_pos_iff.2 hne
    rw [List.replicate_succ, List.flatten_cons, List.getElem?_append]
    split
    · rename_i hlt; rw [Nat.mod_eq_of_lt hlt]
    · rename_i hge
      have hge' : ys.length ≤ i := by omega
      rw [flatten_get d ys hne n (i - ys.length) (by rw [Nat.succ_mul] at h; omega)]
      congr 1
      rw [Nat.mod_eq_sub_mod hge']

theorem range_rep (ys : Array Value) (n : Nat) (hne : ys.size ≠ 0) : ((Array.range (n * ys.size)).map (ys[· % ys.size]!)).toList = (List.replicate n ys.toList).flatten := by
  apply List.ext_getElem?
  intro i
  have hpos : 0 < ys.size := by omega
  by_cases hi : i < n * ys.size
  · rw [flatten_get default ys.toList (by intro e; apply hne; rw [← Array.length_toList, e]; rfl) n i (by simpa using hi)]
    have hlt : i % ys.size < ys.size := Nat.mod_lt _ hpos
    simp [hi, Array.getElem?_toList, hlt]
  · have h1 : ((Array.range (n * ys.size)).map (ys[· % ys.size]!)).toList.length = n * ys.size := by simp
    have h2 : (List.replicate n ys.toList).flatten.length = n * ys.size := by simp
    rw [List.getElem?_eq_none (by omega), List.getElem?_eq_none (by omega)]

section
variable {ρ : Rho} {ρc : Operand → Value} (hρ : ∀ x y, opd x = some y → VRel β (ρ y) (ρc x))
include hρ

theorem gives_alloc {t : TypeId} {zs : List V} (hz : zeros? P t = some zs) : GivesN P CR β ρc (.alloc t) (.cells .ex zs) (fun b => .ptr b 0) := by
  intro O hO w
  obtain ⟨z', h1, h2⟩ := run_zeros (P := P) (β := β) hz w
  refine ⟨.pointer (some ⟨w.heap.size, 0, none⟩), w.alloc (.cells z'.cells t), .cells z'.cells t, .ex, z'.cells.size, ?_, .alloc _ _, fun b hb => ⟨?_, .ptr (upd_self _ _)⟩⟩
  · simp [execOp, hO, Instr.alloc, h1, newVar, newRow]
  · exact brel_new rfl rfl rfl (by rw [h2.1]; simp) (fun i v v' a b' => (h2.2 i v v' a (by simpa using b')).mono (upd_le hb)) (.inl rfl)

theorem gives_box {t : TypeId} {x : Operand} {y : Opd} (hx : opd x = some y) {blk : Blk} {vf : Nat → V} (hv : (NOp.box y).ev ρ = some (blk, vf)) : GivesN P CR β ρc (.box t x) blk vf := by
  intro O hO w
  have hxx := hρ _ _ hx
  simp only [NOp.ev] at hv
  split at hv
  case isFalse => cases hv
  rename_i hok
  cases hv
  have hc := hxx.cells (V.ok_ne hok).1 (V.ok_ne hok).2
  refine ⟨.pointer (some ⟨w.heap.size, 0, none⟩), w.alloc (.cells (ρc x).cells t), .cells (ρc x).cells t, .ex, (ρc x).cells.size, ?_, .alloc _ _, fun b hb => ⟨?_, .ptr (upd_self _ _)⟩⟩
  · simp [execOp, hO, Instr.box, newVar, newRow]
  · exact brel_new rfl rfl rfl (by rw [hc.1]; simp) (fun i v v' a b' => (hc.2 i v v' a (by simpa using b')).mono (upd_le hb)) (.inl rfl)

theorem gives_bsl {t e : TypeId} {len s : Nat} {ps : Array (Nat × Operand)} {zs : List V} {qs : List (Nat × Nat × Opd)} (ht : P.underlying t = some (.slice e)) (hs : sizeOf? P e = some s) (hz : zeros? P e = some zs)
    (h0 : s ≠ 0) (h1 : len * s ≤ 16777216) (hq : partsA s ps.toList = some qs) {blk : Blk} {vf : Nat → V} (hv : (NOp.bsl len s zs qs).ev ρ = some (blk, vf)) : GivesN P CR β ρc (.buildSlice t len ps) blk vf := by
  intro O hO w
  simp only [NOp.ev, Option.bind_eq_some_iff] at hv
  obtain ⟨cs, hf, hv⟩ := hv
  split at hv
  case isFalse => cases hv
  rename_i hzs
  cases hv
  obtain ⟨z', hz1, hz2⟩ := run_zeros (P := P) (β := β) hz w
  have hzl : z'.cells.size = s := by have := hz2.1; rw [hzs] at this; simpa using this.symm
  obtain ⟨hl, hp⟩ := partsA_rel hρ hq
  have hrep : LRel β (rep len zs) ((Array.range (len * s)).map (z'.cells[· % z'.cells.size]!)).toList := by
    have := range_rep z'.cells len (by omega)
    rw [hzl] at this ⊢
    rw [this]
    exact rep_rel hz2 len
  obtain ⟨ys, g1, g2⟩ := fill_sim (β := β) (fun i => some (i * s, s)) (ps.map fun (x : Nat × Operand) => (x.1, ρc x.2)).toList (qs.map fun (x : Nat × Nat × Opd) => (x.1, x.2.1, ρ x.2.2)) _ ((Array.range (len * s)).map (z'.cells[· % z'.cells.size]!)) cs hf hrep (by simp [hl])
    (fun i p q a b => by
      simp only [Array.toList_map, List.getElem?_map, Option.map_eq_some_iff] at a b
      obtain ⟨p0, a, rfl⟩ := a
      obtain ⟨q0, b, rfl⟩ := b
      obtain ⟨k1, k2, k3⟩ := hp i p0 q0 a b
      exact ⟨by simp [k1, k2], k3⟩)
  refine ⟨.slice (some ⟨w.heap.size, 0, none⟩) len len, w.alloc (.cells ys e), .cells ys e, .ex, ys.size, ?_, .alloc _ _, fun b hb => ⟨?_, .sl (upd_self _ _) (Nat.le_refl _) (Nat.le_refl _) (fun _ => rfl) ⟨rfl, rfl⟩⟩⟩
  · have hpow : ¬ (len * s > 2 ^ 24) := by omega
    have hmap : (ps.map fun x => match x with | (i, x) => (i, ρc x)) = (ps.map fun (x : Nat × Operand) => (x.1, ρc x.2)) := rfl
    by_cases hn : len * s = 0
    · have hl0 : len = 0 := by
        rcases Nat.mul_eq_zero.1 hn with h | h
        · exact h
        · exact absurd h h0
      subst hl0
      have hr0 : (Array.range 0).map (z'.cells[· % z'.cells.size]!) = #[] := by simp
      rw [Nat.zero_mul, hr0] at g1
      simp only [Array.toList_map] at g1
      simp [execOp, hO, Instr.buildSlice, run_underlying ht, run_sizeOf hs, newRow, Array.range_zero', g1]
    · simp only [execOp, hO, Instr.buildSlice, Sem.run_bind, run_underlying ht, Result.andThen_ok, run_sizeOf hs, if_neg hpow, if_neg hn, hz1, Sem.run_pure]
      rw [hmap, g1]
      simp [newRow]
  · exact brel_new rfl rfl rfl (by rw [g2.1]; simp) (fun i v v' a b' => (g2.2 i v v' a (by simpa using b')).mono (upd_le hb)) (.inl rfl)

theorem gives_mksl {t e : TypeId} {s bs : Nat} {l c : Operand} {l' c' : Opd} {zs : List V} (ht : P.underlying t = some (.slice e)) (hs : sizeOf? P e = some s) (hb : bytesOf? P e = some bs) (hz : zeros? P e = some zs)
    (h0 : s ≠ 0) (hl : opd l = some l') (hc : opd c = some c') {blk : Blk} {vf : Nat → V} (hv : (NOp.mksl s bs zs l' c').ev ρ = some (blk, vf)) : GivesN P CR β ρc (.makeSlice t l c) blk vf := by
  intro O hO w
  simp only [NOp.ev] at hv
  split at hv
  case h_2 => cases hv
  rename_i n m el ec
  split at hv
  case isFalse => cases hv
  rename_i hcond
  obtain ⟨c1, c4, c2, c3⟩ := hcond
  cases hv
  obtain ⟨k1, x1, e1, p1, rfl⟩ := opd_nat hρ hl el
  obtain ⟨k2, x2, e2, p2, rfl⟩ := opd_nat hρ hc ec
  obtain ⟨z', hz1, hz2⟩ := run_zeros (P := P) (β := β) hz w
  have hzl : z'.cells.size = s := by have := hz2.1; rw [c3] at this; simpa using this.symm
  have hi : ∃ i, P.info? e = some i ∧ i.bytes = bs := by
    unfold bytesOf? at hb
    simp only [Option.map_eq_some_iff] at hb
    exact hb
  obtain ⟨i, hi, hib⟩ := hi
  have hsz : i.size = s := by
    unfold sizeOf? at hs
    rw [hi] at hs
    simpa using hs
  have hzz : ∃ z, i.zero = some z := by
    unfold zeros? zero? at hz
    rw [hi] at hz
    simp only [Option.map_eq_some_iff, Option.bind_eq_some_iff, Option.some.injEq] at hz
    obtain ⟨_, ⟨z, ⟨_, rfl, hz⟩, _⟩, _⟩ := hz
    exact ⟨z, hz⟩
  obtain ⟨z, hzz⟩ := hzz
  have hzz' : z = z' := by
    have : (zeroValue e).run P w = .ok z w := by simp [zeroValue, typeInfo, hi, hzz]
    rw [hz1] at this
    cases this
    rfl
  subst hzz'
  have hbytes : (i.bytes : Int) * x2 ≤ 281474976710656 := by
    rw [hib]
    have : (x2 : Int) = (x2.toNat : Int) := by omega
    rw [this, ← Int.natCast_mul]
    omega
  have hrun := run_make (P := P) w t e i z ht hi hzz k1 k2 x1 x2 p1 (by omega) hbytes (by omega)
  have hcells : (madeCells z.cells (x2.toNat * i.size)).toList = (List.replicate x2.toNat z.cells.toList).flatten := by
    have := range_rep z.cells x2.toNat (by omega)
    rw [hzl] at this
    rw [hsz]
    unfold madeCells
    rw [← this, hzl]
  have hrel : LRel β (rep x2.toNat zs) (madeCells z.cells (x2.toNat * i.size)).toList := by rw [hcells]; exact rep_rel hz2 _
  refine ⟨.slice (some ⟨w.heap.size, 0, none⟩) x1.toNat x2.toNat, w.alloc (.cells (madeCells z.cells (x2.toNat * i.size)) e), .cells (madeCells z.cells (x2.toNat * i.size)) e, .ex, (madeCells z.cells (x2.toNat * i.size)).size, by simp [execOp, hO, e1, e2, hrun], .alloc _ _, fun b hb => ⟨?_, .sl (upd_self _ _) c1 (Nat.le_refl _) (fun _ => rfl) ⟨rfl, rfl⟩⟩⟩
  exact brel_new rfl rfl rfl (by rw [hrel.1]; simp) (fun i v v' a b' => (hrel.2 i v v' a (by simpa using b')).mono (upd_le hb)) (.inl rfl)

theorem gives_s2b {src dst e : TypeId} {x : Operand} {y : Opd} (hs : P.underlying src = some .string) (hd : P.underlying dst = some (.slice e)) (he : P.underlying e = some (.int .u8)) (hx : opd x = some y)
    {blk : Blk} {vf : Nat → V} (hv : (NOp.s2b y).ev ρ = some (blk, vf)) : GivesN P CR β ρc (.convert src dst x) blk vf := by
  intro O hO w
  have hxx := hρ _ _ hx
  simp only [NOp.ev] at hv
  generalize ρ y = vx at hv hxx
  split at hv
  case h_2 => cases hv
  obtain ⟨z, e', rfl⟩ := hxx.str_inv
  cases hv
  have hrun := run_bytes_of_string (P := P) w src dst e z hs hd he
  have hcap : z.size ≤ grownCap w z.size 0 e := by unfold grownCap; simp [Question.cut]
  have hzl : z.data.toList.length = z.size := Array.length_toList
  have hbs : (bytesRow z (grownCap w z.size 0 e)).size = grownCap w z.size 0 e := by
    have : z.data.size = z.size := rfl
    simp [bytesRow, this]; omega
  refine ⟨.slice (some ⟨w.heap.size, 0, none⟩) z.size (grownCap w z.size 0 e),
    w.drew.alloc (.cells (bytesRow z (grownCap w z.size 0 e)) e ((bytesRow z (grownCap w z.size 0 e)).size, (bytesRow z (grownCap w z.size 0 e)).size + 1)),
    .cells (bytesRow z (grownCap w z.size 0 e)) e ((bytesRow z (grownCap w z.size 0 e)).size, (bytesRow z (grownCap w z.size 0 e)).size + 1), .gr 1, grownCap w z.size 0 e, by simp [execOp, hO, e', hrun], ⟨rfl, rfl, rfl, rfl⟩, fun b hb => ⟨?_, ?_⟩⟩
  · refine brel_new rfl rfl hbs.symm (by rw [hbs, List.length_map, hzl]; exact hcap) (fun i v v' a b' => ?_) (.inr (Nat.le_refl _))
    simp only [List.getElem?_map, Option.map_eq_some_iff] at a
    obtain ⟨u, hu, rfl⟩ := a
    have hlt : i < z.data.size := by have := (List.getElem?_eq_some_iff.1 hu).1; simpa using this
    have hu' : z.data[i]? = some u := by simpa using hu
    have : (bytesRow z (grownCap w z.size 0 e))[i]? = some (.int .u8 u.toNat) := by
      unfold bytesRow
      rw [Array.getElem?_append_left (by simpa using hlt)]
      simp [hu']
    rw [this] at b'
    cases b'
    exact .int _ _
  · rw [hzl]
    exact .sl (upd_self _ _) (Nat.le_refl _) hcap (fun _ => rfl) (.inr ⟨rfl, by simp⟩)


theorem gives_N {o : Op} {q : NOp} (hc : compN P o = some q) {blk : Blk} {vf : Nat → V} (hv : q.ev ρ = some (blk, vf)) : GivesN P CR β ρc o blk vf := by
  unfold compN at hc
  split at hc
  · simp only [Option.map_eq_some_iff] at hc
    obtain ⟨zs, hz, rfl⟩ := hc
    simp only [NOp.ev, Option.some.injEq, Prod.mk.injEq] at hv
    obtain ⟨rfl, rfl⟩ := hv
    exact gives_alloc hρ hz
  · simp only [Option.map_eq_some_iff] at hc
    obtain ⟨y, hy, rfl⟩ := hc
    exact gives_box hρ hy hv
  · split at hc
    · rename_i e ht
      simp only [Option.bind_eq_some_iff] at hc
      obtain ⟨s, hs, zs, hz, hc⟩ := hc
      split at hc
      · cases hc
      · rename_i hcond
        simp only [not_or, Nat.not_lt] at hcond
        simp only [Option.map_eq_some_iff] at hc
        obtain ⟨l, hl, rfl⟩ := hc
        exact gives_bsl hρ ht hs hz hcond.1 (by omega) hl hv
    · cases hc
  · split at hc
    · rename_i e ht
      simp only [Option.bind_eq_some_iff] at hc
      obtain ⟨s, hs, b, hb, zs, hz, hc⟩ := hc
      split at hc
      · cases hc
      · rename_i h0
        simp only [Option.bind_eq_some_iff, Option.map_eq_some_iff] at hc
        obtain ⟨l, hl, c, hcc, rfl⟩ := hc
        exact gives_mksl hρ ht hs hb hz h0 hl hcc hv
    · cases hc
  · split at hc
    · rename_i e hs hd
      split at hc
      · rename_i he
        simp only [Option.map_eq_some_iff] at hc
        obtain ⟨y, hy, rfl⟩ := hc
        exact gives_s2b hρ hs hd he hy hv
      · cases hc
    · cases hc
  · cases hc
end

end Go.A

/- Memory: what is written in A is written in the machine. -/
set_option linter.unusedVariables false
set_option linter.unusedSimpArgs false
set_option linter.unusedSectionVars false
namespace Go.A

variable {P : Program} {CR : Nat → Code → ACode → Prop} {β : Map} {h : Heap} {w : World}

theorem run_stores (g o : Nat) (t : TypeId) (fz : Nat × Nat) : ∀ (vs : List Value) (i : Nat) (cur : Array Value) (w : World), w.heap[g]? = some (.cells cur t fz) → (fz.1 = fz.2 ∨ cur.size ≤ fz.1) →
    o + i + vs.length ≤ cur.size → (∀ v ∈ vs, v.oneCell' = true) →
    (storeCells ⟨g, o, none⟩ vs i).run P w = .ok () (w.setRow g (cur.toList.take (o + i) ++ vs ++ cur.toList.drop (o + i + vs.length)).toArray)
  | [], i, cur, w, hg, _, _, _ => by
    simp only [storeCells, List.append_nil, List.length_nil, Nat.add_zero, List.take_append_drop, Array.toArray_toList]
    rw [setRow_self w g cur t fz hg]
    rfl
  | v :: rest, i, cur, w, hg, hfz, hl, h1 => by
    have hi : o + i < cur.size := by simp at hl; omega
    have hadd : (⟨g, o, none⟩ : Addr).add i = ⟨g, o + i, none⟩ := by unfold Addr.add; split <;> simp_all
    have hcell : w.cell? ⟨g, o + i, none⟩ = some cur[o + i] := by simp [World.cell?, hg, hi]
    have hfro : w.frozen? ⟨g, o + i, none⟩ = false := by
      obtain ⟨lo, hi'⟩ := fz
      simp only [World.frozen?, hg, Bool.and_eq_false_iff, decide_eq_false_iff_not]
      simp only at hfz
      omega
    have hst : (store ((⟨g, o, none⟩ : Addr).add i) v).run P w = .ok () (w.setRow g (cur.setIfInBounds (o + i) v)) := by
      rw [hadd, run_store P w _ v _ (h1 v (by simp)), hcell]
      simp [hfro, setCell_eq_setRow w g (o + i) cur t fz v hg]
    have ih := run_stores g o t fz rest (i + 1) (cur.setIfInBounds (o + i) v) (w.setRow g (cur.setIfInBounds (o + i) v)) (setRow_heap w g cur _ t _ hg) (by simpa using hfz) (by simp at hl ⊢; omega) (fun x hx => h1 x (by simp [hx]))
    simp only [storeCells, Sem.run_bind, hst, Result.andThen_ok, ih, setRow_setRow]
    congr 3
    have e := list_seg_step cur.toList (o + i) v rest (by simp at hl ⊢; omega)
    simpa [Array.toList_setIfInBounds, Nat.add_assoc] using e

theorem one_cell {v : V} {v' : Value} (r : VRel β v v') (h : v.one = true) : v'.oneCell' = true := by
  cases r <;> simp_all [V.one, Value.oneCell']

theorem one_cells {xs : List V} {ys : List Value} (r : LRel β xs ys) (h : xs.all V.one = true) : ∀ v ∈ ys, v.oneCell' = true := by
  induction xs generalizing ys with
  | nil => rw [r.inv_nil]; simp
  | cons x xs ih =>
    obtain ⟨y, ys', rfl, hx, hr⟩ := r.inv_cons
    simp only [List.all_cons, Bool.and_eq_true] at h
    intro v hv
    rcases List.mem_cons.1 hv with rfl | hv
    · exact one_cell hx h.1
    · exact ih hr h.2 v hv

/-- Cells are written into a block of A. -/
theorem HRel.writeN (r : HRel P CR β h w) {b o : Nat} {bi : BI} {xs : List V} {ys : List Value} {h' : Heap} (hbi : β b = some bi) (hw : writeN h b o xs = some h') (hx : LRel β xs ys) :
    ∃ w', (storeCells ⟨bi.blk, bi.off + o, none⟩ ys).run P w = .ok () w' ∧ HRel P CR β h' w' ∧ Stp β h w β h' w' := by
  unfold A.writeN at hw
  split at hw
  case h_2 => cases hw
  rename_i m cs hb
  split at hw
  case isFalse => cases hw
  rename_i hc
  obtain ⟨c1, c2, c3⟩ := hc
  cases hw
  obtain ⟨c, e, fr, hg, h2, h3, h4, h5⟩ := r.cells hbi hb
  obtain ⟨h6, h7⟩ := h5 c1
  have hlen := hx.1
  have hs := run_stores (P := P) bi.blk (bi.off + o) e fr ys 0 c w hg (by rw [← h2] at h7; exact h7) (by omega) (one_cells hx c3)
  simp only [Nat.add_zero] at hs
  have hsz : ((c.toList.take (bi.off + o) ++ ys ++ c.toList.drop (bi.off + o + ys.length)).toArray).size = c.size := by simp; omega
  have hset := HRel.set (blk := .cells m (cs.take o ++ xs ++ cs.drop (o + xs.length))) r hbi hb (by cases m <;> simp_all [Blk.wr]) rfl (w' := w.setRow bi.blk (c.toList.take (bi.off + o) ++ ys ++ c.toList.drop (bi.off + o + ys.length)).toArray)
    (o := .cells (c.toList.take (bi.off + o) ++ ys ++ c.toList.drop (bi.off + o + ys.length)).toArray e fr) rfl rfl rfl (by simp) (setRow_heap w _ c _ e fr hg) (fun k hk => setRow_other w _ k _ hk) ?_
  · exact ⟨_, hs, hset.1, hset.2⟩
  · refine ⟨_, e, fr, rfl, by rw [hsz, h2], by rw [hsz]; simp; omega, fun i v v' a b' => ?_, fun _ => ⟨h6, h7⟩⟩
    have hrel : LRel β (cs.take o ++ xs ++ cs.drop (o + xs.length)) (((c.toList.drop bi.off).take cs.length).take o ++ ys ++ ((c.toList.drop bi.off).take cs.length).drop (o + xs.length)) :=
      ((h4.take o).append hx).append (h4.drop _)
    refine hrel.2 i v v' a ?_
    have hi : i < cs.length := by
      have := (List.getElem?_eq_some_iff.1 a).1
      simp at this
      omega
    rw [← b']
    simp only [List.getElem?_toArray]
    have l1 : (((c.toList.drop bi.off).take cs.length).take o).length = o := by simp; omega
    have l2 : (c.toList.take (bi.off + o)).length = bi.off + o := by simp; omega
    by_cases k1 : i < o
    · rw [List.append_assoc, List.append_assoc, List.getElem?_append_left (by rw [l1]; exact k1), List.getElem?_append_left (by rw [l2]; omega)]
      rw [List.getElem?_take, if_pos k1, List.getElem?_take, if_pos hi, List.getElem?_drop, List.getElem?_take, if_pos (by omega)]
    · by_cases k2 : i < o + ys.length
      · rw [List.getElem?_append_left (by simp; omega), List.getElem?_append_right (by rw [l1]; omega), List.getElem?_append_left (by simp; omega), List.getElem?_append_right (by rw [l2]; omega), l1, l2]
        congr 1
        omega
      · rw [List.getElem?_append_right (by simp; omega), List.getElem?_append_right (by simp; omega)]
        rw [List.getElem?_drop, List.getElem?_take, if_pos (by simp; omega), List.getElem?_drop, List.getElem?_drop]
        congr 1
        simp
        omega

theorem slok_gr {bi : BI} {e o c o' cc : Nat} (h : bi.md = .gr e) (hb : o' + cc * e ≤ bi.csz) : SlOk bi e o c o' cc := by
  unfold SlOk; rw [h]; exact .inr ⟨rfl, hb⟩

/-- Cells are stored behind a base, if there is one. -/
def Stored (P : Program) (base : Option Addr) (k : Nat) (ys : List Value) (w w' : World) : Prop :=
  match base with
  | some a => (storeCells (a.add k) ys).run P w = .ok () w'
  | none => w' = w

/-- The operation o gives v and leaves the memory h'. -/
def GivesL (P : Program) (CR : Nat → Code → ACode → Prop) (β : Map) (h : Heap) (w : World) (ρc : Operand → Value) (o : Op) (v : V) (h' : Heap) : Prop :=
  ∀ O : Oper, O.op = o → ∃ β' nx w', (execOp ρc O).run P w = .ok nx w' ∧ ((∃ v', nx = .value v' ∧ VRel β' v v') ∨ (nx = .skip ∧ v = .undef)) ∧ HRel P CR β' h' w' ∧ Stp β h w β' h' w'

theorem HRel.readN' (r : HRel P CR β h w) {e b o n c m : Nat} {x' : Value} {xs : List V} (hx : VRel β (.sl e b o n c) x') (hr : A.readN h b o m = some xs) (hm : n = 0 → m = 0) :
    ∃ (a : Addr) (cc : Nat) (ys : List Value), x' = .slice (some a) n cc ∧ (loadCells a m).run P w = .ok ys.toArray w ∧ LRel β xs ys ∧ ys.length = m := by
  obtain ⟨bi, o', cc, hb, e', hn, hcc, ho, -⟩ := hx.sl_inv
  obtain ⟨ys, h3, h4, h5⟩ := r.readN hb hr (fun _ => trivial)
  by_cases hz : c = 0
  · have hl : m = 0 := hm (by omega)
    subst hl
    have : ys = [] := by simpa using h5
    subst this
    exact ⟨_, cc, [], e', by simp [loadCells, loadCellsFrom], h4, by simp⟩
  · exact ⟨_, cc, ys, e', by rw [ho hz]; exact h3, h4, h5⟩

/-- The cells that are appended. -/
theorem HRel.src (r : HRel P CR β h w) {esz : Nat} {x : V} {x' : Value} (hx : VRel β x x') {n : Nat} {new : List V} (hs : srcCells h esz x = some (n, new))
 : (∀ w', (Builtin.lenOf x').run P w' = .ok n w') ∧ ∃ ys : List Value, (Builtin.firstCells esz n x').run P w = .ok ys.toArray w ∧ LRel β new ys ∧ ys.length = n * esz := by
  unfold srcCells at hs
  split at hs
  · obtain ⟨a0, e⟩ := hx.nils_inv
    cases hs
    exact ⟨fun w' => by simp [e, Builtin.lenOf], [], by cases a0 <;> simp [e, Builtin.firstCells, loadCells, loadCellsFrom], .nil, by simp⟩
  · rename_i e b o l c
    simp only [Option.map_eq_some_iff, Prod.mk.injEq] at hs
    obtain ⟨cs, hr, rfl, rfl⟩ := hs
    obtain ⟨a, cc, ys, e', g1, g2, g3⟩ := r.readN' hx hr (fun z => by rw [z, Nat.zero_mul])
    exact ⟨fun w' => by simp [e', Builtin.lenOf], ys, by simpa [e', Builtin.firstCells] using g1, g2, g3⟩
  · rename_i s
    obtain ⟨z, e', rfl⟩ := hx.str_inv
    split at hs
    case isFalse => cases hs
    rename_i h1
    subst h1
    simp only [Option.some.injEq, Prod.mk.injEq] at hs
    obtain ⟨rfl, rfl⟩ := hs
    have hz : z.data.toList.length = z.size := Array.length_toList
    refine ⟨fun w' => by simp [e', Builtin.lenOf, hz], z.data.toList.map fun b => .int .u8 b.toNat, ?_, ?_, by simp⟩
    · rw [hz]
      have hd : z.extract 0 z.size = z := by simp
      have hm : (z.data.map fun b => Value.int .u8 b.toNat) = (z.data.toList.map fun b => Value.int .u8 b.toNat).toArray := by
        apply Array.toList_inj.1
        simp
      simp only [e', Builtin.firstCells, hd, Sem.run_pure, hm]
    · refine ⟨by simp, fun i v v' a b => ?_⟩
      simp only [List.getElem?_map, Option.map_eq_some_iff] at a b
      obtain ⟨u, hu, rfl⟩ := a
      obtain ⟨u', hu', rfl⟩ := b
      rw [hu] at hu'
      cases hu'
      exact .int _ _
  · cases hs

theorem growBy_le (need : Nat) (h : 256 ≤ need) : ∀ (rounds c : Nat), c ≤ 2 * need → Builtin.growBy need rounds c ≤ 2 * need
  | 0, c, hc => hc
  | k + 1, c, hc => by
    unfold Builtin.growBy
    split
    · exact hc
    · exact growBy_le need h k _ (by omega)

theorem nextcap_le (need cap : Nat) (h : cap < need) : Builtin.nextslicecap need cap ≤ 2 * need := by
  unfold Builtin.nextslicecap
  split
  · omega
  · split
    · omega
    · exact growBy_le need (by omega) 4 cap (by omega)

theorem zeroCells_size (z : Array Value) (n : Nat) : (Builtin.zeroCells z n).size = n * z.size := by simp [Builtin.zeroCells]

theorem run_tinfo {t : TypeId} {i : TypeInfo} (h : P.info? t = some i) (w : World) : (typeInfo t).run P w = .ok i w := by simp [typeInfo, h]

/-- What is appended goes into a new array. -/
theorem run_append_new {sT uT ty e : TypeId} {esz bs : Nat} {zs : List V} (ht : P.underlying sT = some (.slice e)) (hu : ∃ d, P.underlying uT = some d ∧ ∀ k, d ≠ .int k) (hs : sizeOf? P e = some esz) (hb : bytesOf? P e = some bs)
    (hz : zeros? P e = some zs) (hzs : zs.length = esz) {base : Option Addr} {l c n : Nat} {x' : Value} {old new : List Value}
    (hl : ∀ w', (Builtin.lenOf x').run P w' = .ok n w') (hold : (Builtin.firstCells esz l (.slice base l c)).run P w.drew = .ok old.toArray w.drew) (hnew : (Builtin.firstCells esz n x').run P w.drew = .ok new.toArray w.drew)
    (hol : old.length = l * esz) (hnl : new.length = n * esz)
    (hgrow : c < l + n) (hmax : l + n ≤ 17592186044416) (hbytes : (l + n) * bs ≤ 17592186044416) :
    ∃ (cells : Array Value) (newCap : Nat), (Builtin.append_ #[sT, uT] ty #[.slice base l c, x']).run P w = .ok (.slice (some ⟨w.heap.size, 0, none⟩) (l + n) newCap) (w.drew.alloc (.cells cells e)) ∧
      l + n ≤ newCap ∧ cells.size = newCap * esz ∧ (cells.toList.take ((l + n) * esz)) = old ++ new := by
  obtain ⟨d, hu, hd⟩ := hu
  obtain ⟨z', hz1, hz2⟩ := run_zeros (P := P) (β := fun _ => none) hz w.drew
  have hzl : z'.cells.size = esz := by have := hz2.1; rw [hzs] at this; simpa using this.symm
  have hib : ∃ i, P.info? e = some i ∧ i.bytes = bs := by
    unfold bytesOf? at hb
    simp only [Option.map_eq_some_iff] at hb
    exact hb
  obtain ⟨i, hi, hib⟩ := hib
  have hnint : (match d with | .int _ => true | _ => false) = false := by
    cases d <;> first | rfl | exact absurd rfl (hd _)
  refine ⟨old.toArray ++ (new.toArray ++ Builtin.zeroCells z'.cells (grownCap w (l + n) c e - (l + n))), grownCap w (l + n) c e, ?_, ?_, ?_, ?_⟩
  · have h1 : ¬ (l + n ≤ c) := by omega
    have h2 : ¬ (((l + n : Nat) : Int) > IntKind.i64.max ∧ (false = true ∨ i.bytes = 0)) := by
      rw [IntKind.max_i64]; omega
    have h3 : ¬ (Builtin.nextslicecap (l + n) c * i.bytes > 2 ^ 48) := by
      have := nextcap_le (l + n) c (by omega)
      have := Nat.mul_le_mul_right i.bytes this
      rw [hib] at this ⊢
      have h4 : 2 * (l + n) * bs = 2 * ((l + n) * bs) := Nat.mul_assoc _ _ _
      omega
    have hcap : (choose (.appendCap (l + n) c e)).run P w = .ok (grownCap w (l + n) c e) w.drew := by simp [Question.forced, grownCap]
    unfold Builtin.append_
    simp only [List.getElem?_toArray, List.getElem?_cons_zero, List.getElem?_cons_succ, Sem.run_bind, run_underlying ht, run_underlying hu, Result.andThen_ok, run_sizeOf hs, Sem.run_pure, hnint, Bool.false_eq_true, if_false, hl,
      if_neg h1]
    have h2' : ¬ (9223372036854775807 < (l : Int) + n ∧ i.bytes = 0) := by omega
    have h3' : ¬ (281474976710656 < Builtin.nextslicecap (l + n) c * i.bytes) := by omega
    simp [h2', h3', run_tinfo hi, Question.forced, hold, hnew, hz1, newRow, grownCap]
  · unfold grownCap; simp [Question.cut]
  · have : l + n ≤ grownCap w (l + n) c e := by unfold grownCap; simp [Question.cut]
    simp only [Array.size_append, zeroCells_size, hzl, List.size_toArray, hol, hnl]
    rw [← Nat.add_mul, ← Nat.add_mul]
    congr 1
    omega
  · simp only [Array.toList_append]
    rw [← List.append_assoc, List.take_left' (by simp [hol, hnl, Nat.add_mul])]

/-- A block that is known no more, and a new one in its place. -/
theorem HRel.regrow (r : HRel P CR β h w) {b : Nat} {bi : BI} {old : Blk} (hbi : β b = some bi) (hold : h[b]? = some old) (hwr : old.wr = true) {w' : World} {o : Obj} {bi' : BI} (hblk : bi'.blk = bi.blk)
    (hos : w'.os = w.os) (htape : w'.tape = w.tape) (hout : w'.output = w.output) (hsz : w'.heap.size = w.heap.size) (hat : w'.heap[bi.blk]? = some o)
    (hother : ∀ k, k ≠ bi.blk → w'.heap[k]? = w.heap[k]?) {blk : Blk} (hb : BRel P CR (upd β h.length bi') bi' blk o) :
    HRel P CR (upd β h.length bi') (h.set b .dead ++ [blk]) w' ∧ Stp β h w (upd β h.length bi') (h.set b .dead ++ [blk]) w' := by
  have hlt : b < h.length := (List.getElem?_eq_some_iff.1 hold).1
  have hfr := r.fresh
  have hle : β.le (upd β h.length bi') := upd_le hfr
  have lookup : ∀ c ci, upd β h.length bi' c = some ci → (c = h.length ∧ ci = bi') ∨ (c < h.length ∧ β c = some ci) := by
    intro c ci e
    unfold upd at e
    by_cases hcc : c = h.length
    · rw [if_pos hcc] at e; cases e; exact .inl ⟨hcc, rfl⟩
    · rw [if_neg hcc] at e; exact .inr ⟨(r.dom _ _ e).1, e⟩
  have hget : ∀ {c ck}, c < h.length → (h.set b .dead ++ [blk])[c]? = some ck → ck.live = true → c ≠ b ∧ h[c]? = some ck := by
    intro c ck hc e hl
    rw [List.getElem?_append_left (by simpa using hc)] at e
    by_cases hcb : c = b
    · subst hcb; rw [List.getElem?_set_self hlt] at e; cases e; cases hl
    · rw [List.getElem?_set_ne (by omega)] at e; exact ⟨hcb, e⟩
  have hlast : (h.set b .dead ++ [blk])[h.length]? = some blk := by
    rw [List.getElem?_append_right (by simp)]; simp
  refine ⟨⟨?_, ?_, ?_⟩, ⟨⟨hle, hos, htape, hout, by omega, by simp, ?_, ?_, ?_, ?_, ?_⟩, ?_⟩⟩
  · intro c ci e
    rcases lookup c ci e with ⟨h1, h2⟩ | ⟨h1, h2⟩
    · subst h1 h2; have := (r.dom _ _ hbi).2; exact ⟨by simp, by rw [hblk]; omega⟩
    · have := (r.dom _ _ h2).2; exact ⟨by simp; omega, by omega⟩
  · intro c ci ck e1 e2 hl
    rcases lookup c ci e1 with ⟨h1, h2⟩ | ⟨h1, h2⟩
    · subst h1 h2
      rw [hlast] at e2
      cases e2
      exact ⟨o, by rw [hblk]; exact hat, hb⟩
    · obtain ⟨g1, g2⟩ := hget h1 e2 hl
      obtain ⟨o', ho, hr⟩ := r.blk c ci ck h2 g2 hl
      have := r.uniq b c bi ci old ck (fun e => g1 e.symm) hbi h2 hold g2 hwr hl
      exact ⟨o', by rw [hother _ (fun e => this e.symm)]; exact ho, hr.mono hle⟩
  · intro c c' ci ci' ck ck' hne e1 e2 e3 e4 hw hl
    rcases lookup c ci e1 with ⟨h1, h2⟩ | ⟨h1, h2⟩ <;> rcases lookup c' ci' e2 with ⟨h3, h4⟩ | ⟨h3, h4⟩
    · omega
    · subst h2
      obtain ⟨g1, g2⟩ := hget h3 e4 hl
      rw [hblk]
      exact r.uniq b c' bi ci' old ck' (fun e => g1 e.symm) hbi h4 hold g2 hwr hl
    · subst h4
      obtain ⟨g1, g2⟩ := hget h1 e3 (Blk.wr_live hw)
      rw [hblk]
      exact r.uniq c b ci bi ck old g1 h2 hbi g2 hold hw (Blk.wr_live hwr)
    · exact r.uniq c c' ci ci' ck ck' hne h2 h4 (hget h1 e3 (Blk.wr_live hw)).2 (hget h3 e4 hl).2 hw hl
  · intro c ci hc e
    rcases lookup c ci e with ⟨h1, h2⟩ | ⟨h1, h2⟩
    · omega
    · exact h2
  · intro B hB hn
    exact hother B fun e => hn ⟨b, bi, old, hbi, hold, hwr, e.symm⟩
  · rintro B ⟨c, ci, ck, e1, e2, e3, rfl⟩
    left
    rcases lookup c ci e1 with ⟨h1, h2⟩ | ⟨h1, h2⟩
    · subst h2
      exact ⟨b, bi, old, hbi, hold, hwr, hblk.symm⟩
    · exact ⟨c, ci, ck, h2, (hget h1 e2 (Blk.wr_live e3)).2, e3, rfl⟩
  · intro c ci e
    rcases lookup c ci e with ⟨h1, h2⟩ | ⟨h1, h2⟩
    · subst h2; rw [hblk]; exact .inr (.inl ⟨b, bi, old, hbi, hold, hwr, rfl⟩)
    · exact .inl h2
  · intro c ck hc e hl
    exact ⟨ck, (hget hc e hl).2, hl⟩
  · intro tot c ck e hl
    by_cases hcc : c = h.length
    · exact ⟨_, by rw [hcc]; exact upd_self _ _⟩
    · have hc : c < h.length := by have := (List.getElem?_eq_some_iff.1 e).1; simp at this; omega
      obtain ⟨ci, hci⟩ := tot c ck (hget hc e hl).2 hl
      exact ⟨ci, hle _ _ hci⟩

theorem Stp.kill (r : HRel P CR β h w) {b : Nat} {old : Blk} (hold : h[b]? = some old) : Stp β h w β (h.set b .dead) w := by
  have hlt : b < h.length := (List.getElem?_eq_some_iff.1 hold).1
  refine ⟨⟨Map.le.refl _, rfl, rfl, rfl, Nat.le_refl _, by simp, fun _ _ _ e => e, fun _ _ _ => rfl, ?_, fun _ _ e => .inl e, ?_⟩, ?_⟩
  · rintro B ⟨c, ci, ck, e1, e2, e3, rfl⟩
    by_cases hc : c = b
    · subst hc; rw [List.getElem?_set_self hlt] at e2; cases e2; cases e3
    · rw [List.getElem?_set_ne (by omega)] at e2; exact .inl ⟨c, ci, ck, e1, e2, e3, rfl⟩
  · intro c ck _ e hl
    by_cases hc : c = b
    · subst hc; rw [List.getElem?_set_self hlt] at e; cases e; cases hl
    · rw [List.getElem?_set_ne (by omega)] at e; exact ⟨ck, e, hl⟩
  · intro tot c ck e hl
    by_cases hc : c = b
    · subst hc; rw [List.getElem?_set_self hlt] at e; cases e; cases hl
    · rw [List.getElem?_set_ne (by omega)] at e; exact tot c ck e hl

theorem take_rel {xs : List V} {c : Array Value} {ys : List Value} (hx : LRel β xs ys) {n : Nat} (hl : ys.length = n) (h : c.toList.take n = ys) : ∀ (i : Nat) (v : V) (v' : Value), xs[i]? = some v → c[i]? = some v' → VRel β v v' := by
  intro i v v' a b
  refine hx.2 i v v' a ?_
  have hi : i < xs.length := (List.getElem?_eq_some_iff.1 a).1
  rw [← h, List.getElem?_take, if_pos (by rw [← hl, ← hx.1]; exact hi)]
  simpa using b

section
variable {ρ : Rho} {ρc : Operand → Value} (hρ : ∀ x y, opd x = some y → VRel β (ρ y) (ρc x))
include hρ

theorem gives_st (r : HRel P CR β h w) {t : TypeId} {a x : Operand} {a' x' : Opd} (hz : szOf P t = some none) (hsz : sizeOf? P t = some 1) (ha : opd a = some a') (hx : opd x = some x') {v : V} {h' : Heap}
    (hv : (LOp.st a' x').ev ρ h = some (v, h')) : GivesL P CR β h w ρc (.store t a x) v h' := by
  intro O hO
  have haa := hρ _ _ ha
  have hxx := hρ _ _ hx
  simp only [LOp.ev] at hv
  generalize ρ a' = va at hv haa
  split at hv
  case h_2 => cases hv
  obtain ⟨bi, hbi, e⟩ := haa.ptr_inv
  simp only [Option.map_eq_some_iff, Prod.mk.injEq] at hv
  obtain ⟨h1, hw, rfl, rfl⟩ := hv
  have hone : (ρ x').one = true := by
    unfold writeN at hw
    split at hw
    · split at hw
      · rename_i hc; simpa using hc.2.2
      · cases hw
    · cases hw
  obtain ⟨w', g1, g2, g3⟩ := r.writeN (P := P) hbi hw (.cons hxx .nil)
  have hcells : (ρc x).cells = #[ρc x] := by
    have := one_cell hxx hone
    cases hq : ρc x <;> simp_all [Value.cells, Value.oneCell']
  refine ⟨β, .skip, w', ?_, .inr ⟨rfl, rfl⟩, g2, g3⟩
  simp [execOp, hO, e, Instr.storeAt, Instr.sureAddr, storeVar, hcells, run_sizeOf hsz, g1]

theorem gives_stN (r : HRel P CR β h w) {t : TypeId} {n : Nat} {a x : Operand} {a' x' : Opd} (hz : szOf P t = some (some n)) (ha : opd a = some a') (hx : opd x = some x') {v : V} {h' : Heap}
    (hv : (LOp.stN n a' x').ev ρ h = some (v, h')) : GivesL P CR β h w ρc (.store t a x) v h' := by
  intro O hO
  have haa := hρ _ _ ha
  have hxx := hρ _ _ hx
  simp only [LOp.ev] at hv
  generalize ρ a' = va at hv haa
  generalize ρ x' = vx at hv hxx
  split at hv
  case h_2 => cases hv
  obtain ⟨bi, hbi, e⟩ := haa.ptr_inv
  obtain ⟨ys, e2, hys⟩ := hxx.agg_inv
  split at hv
  case isFalse => cases hv
  rename_i hn
  simp only [Option.map_eq_some_iff, Prod.mk.injEq] at hv
  obtain ⟨h1, hw, rfl, rfl⟩ := hv
  obtain ⟨w', g1, g2, g3⟩ := r.writeN (P := P) hbi hw hys
  have hl : ys.size = n := by have := hys.1; rw [hn] at this; simpa using this.symm
  refine ⟨β, .skip, w', ?_, .inr ⟨rfl, rfl⟩, g2, g3⟩
  simp [execOp, hO, e, e2, Instr.storeAt, Instr.sureAddr, storeVar, Value.cells, run_sizeOf (szOf_some hz).2, hl, g1]

omit hρ in
theorem src_cpy (r : HRel P CR β h w) {esz n : Nat} {x : V} {x' : Value} (hx : VRel β x x') {sn : Nat} (hl : lenV x = some sn) (hn : n ≤ sn) {cs : List V} (hc : cpyCells esz h n x = some cs) :
    ∃ ys : List Value, (Builtin.firstCells esz n x').run P w = .ok ys.toArray w ∧ LRel β cs ys := by
  unfold cpyCells at hc
  split at hc
  · simp only [lenV, Option.some.injEq] at hl
    subst hl
    obtain ⟨a, cc, ys, e', g1, g2, g3⟩ := r.readN' hx hc (fun z => by rw [show n = 0 from by omega, Nat.zero_mul])
    exact ⟨ys, by simpa [e', Builtin.firstCells] using g1, g2⟩
  · split at hc
    case isFalse => cases hc
    obtain ⟨z, e', rfl⟩ := hx.str_inv
    cases hc
    have hm : ((z.extract 0 n).data.map fun b => Value.int .u8 b.toNat) = ((z.data.toList.take n).map fun b => Value.int .u8 b.toNat).toArray := by
      apply Array.toList_inj.1
      simp [ByteArray.data_extract]
    refine ⟨(z.data.toList.take n).map fun b => .int .u8 b.toNat, by simp only [e', Builtin.firstCells, Sem.run_pure, hm], by simp, fun i v v' a b => ?_⟩
    simp only [List.getElem?_map, Option.map_eq_some_iff] at a b
    obtain ⟨u, hu, rfl⟩ := a
    obtain ⟨u', hu', rfl⟩ := b
    rw [hu] at hu'
    cases hu'
    exact .int _ _
  · cases hc

theorem gives_cpy (r : HRel P CR β h w) {dT e : TypeId} {esz : Nat} {tys : List TypeId} {args : Array Operand} {argTypes : Array TypeId} {d s : Operand} {d' s' : Opd} (hargs : args.toList = [d, s]) (htys : argTypes.toList = dT :: tys)
    (ht : P.underlying dT = some (.slice e)) (hs : sizeOf? P e = some esz) (hd : opd d = some d') (hss : opd s = some s') {v : V} {h' : Heap}
    (hv : (LOp.cpy esz d' s').ev ρ h = some (v, h')) : GivesL P CR β h w ρc (.call { callee := .builtin .copy, args, argTypes }) v h' := by
  intro O hO
  have hdd := hρ _ _ hd
  have hsx := hρ _ _ hss
  have h1 : args = #[d, s] := by rw [← Array.toArray_toList (xs := args), hargs]
  have h2 : argTypes[0]? = some dT := by rw [← Array.getElem?_toList, htys]; rfl
  simp only [LOp.ev] at hv
  generalize ρ d' = vd at hv hdd
  generalize ρ s' = vs at hv hsx
  unfold evCpy at hv
  simp only [Option.bind_eq_some_iff] at hv
  obtain ⟨dn, hdn, sn, hsn, hv⟩ := hv
  have hsl : ∀ w', (Builtin.lenOf (ρc s)).run P w' = .ok sn w' := by
    intro w'
    unfold lenV at hsn
    split at hsn
    · cases hsn; obtain ⟨a0, e0⟩ := hsx.nils_inv; simp [e0, Builtin.lenOf]
    · cases hsn; obtain ⟨bi, o', cc, -, e', -⟩ := hsx.sl_inv; simp [e', Builtin.lenOf]
    · cases hsn
      obtain ⟨z, e', rfl⟩ := hsx.str_inv
      have : z.data.toList.length = z.size := Array.length_toList
      simp [e', Builtin.lenOf, this]
    · cases hsn
  have hdl : ∃ base cap, ρc d = .slice base dn cap := by
    unfold lenD at hdn
    split at hdn
    · cases hdn; obtain ⟨a0, e0⟩ := hdd.nils_inv; exact ⟨a0, 0, e0⟩
    · cases hdn; obtain ⟨bi, o', cc, -, e', -⟩ := hdd.sl_inv; exact ⟨_, cc, e'⟩
    · cases hdn
  obtain ⟨base, cap, hbase⟩ := hdl
  generalize hm : min sn dn = m at hv
  have hmin : Nat.min sn dn = m := hm
  have run : ∀ (ys : List Value) (w' : World), (Builtin.firstCells esz m (ρc s)).run P w = .ok ys.toArray w → Stored P base 0 ys w w' →
      (execOp ρc O).run P w = .ok (.value (.int .i64 m)) w' := by
    intro ys w' g1 g2
    cases base with
    | some a => simp only [Stored, Addr.add_zero'] at g2; simp [execOp, hO, h1, resolve, invoke, builtin, Builtin.copy_, h2, hbase, run_underlying ht, hsl, hmin, run_sizeOf hs, g1, g2, goInt]
    | none => simp [Stored] at g2; subst g2; simp [execOp, hO, h1, resolve, invoke, builtin, Builtin.copy_, h2, hbase, run_underlying ht, hsl, hmin, run_sizeOf hs, g1, goInt]
  split at hv
  · rename_i hz
    cases hv
    subst hz
    have g1 : (Builtin.firstCells esz 0 (ρc s)).run P w = .ok ([] : List Value).toArray w := by
      unfold lenV at hsn
      split at hsn
      · obtain ⟨a0, e0⟩ := hsx.nils_inv; cases a0 <;> simp [e0, Builtin.firstCells, loadCells, loadCellsFrom]
      · obtain ⟨bi, o', cc, -, e', -⟩ := hsx.sl_inv; simp [e', Builtin.firstCells, loadCells, loadCellsFrom]
      · obtain ⟨z, e', rfl⟩ := hsx.str_inv
        have : (z.extract 0 0).data = #[] := by simp [ByteArray.data_extract]
        simp [e', Builtin.firstCells, this]
      · cases hsn
    have := run [] w g1 (by cases base <;> simp [Stored, storeCells])
    exact ⟨β, _, w, this, .inl ⟨_, rfl, .int _ _⟩, r, .refl _ _ _⟩
  · split at hv
    case h_2 => cases hv
    rename_i hz _ ee b o l c
    obtain ⟨bi, o', cc, hb, e', hn, hcc, ho, -⟩ := hdd.sl_inv
    simp only [Option.bind_eq_some_iff, Option.map_eq_some_iff, Prod.mk.injEq] at hv
    obtain ⟨cs, hcs, h1', hw, rfl, rfl⟩ := hv
    obtain ⟨ys, g1, g2⟩ := src_cpy (P := P) r hsx hsn (by omega) hcs
    obtain ⟨w', g3, g4, g5⟩ := r.writeN (P := P) hb hw g2
    simp only [lenD, Option.some.injEq] at hdn
    subst hdn
    rw [e'] at hbase
    cases hbase
    have hoff : o' = bi.off + o := ho (by omega)
    subst hoff
    exact ⟨β, _, w', run ys w' g1 (by simpa only [Stored, Addr.add_zero'] using g3), .inl ⟨_, rfl, .int _ _⟩, g4, g5⟩

theorem gives_mark (r : HRel P CR β h w) {t e : TypeId} {x : Operand} {x' : Opd} (ht : P.underlying t = some (.slice e)) (he : P.underlying e = some (.int .u8)) (hx : opd x = some x') {v : V} {h' : Heap}
    (hv : (LOp.mark x').ev ρ h = some (v, h')) : GivesL P CR β h w ρc (.convert t t x) v h' := by
  intro O hO
  have hxx := hρ _ _ hx
  simp only [LOp.ev] at hv
  generalize ρ x' = vx at hv hxx
  split at hv
  case h_2 => cases hv
  rename_i ee b o n c
  split at hv
  case h_2 => cases hv
  rename_i cs hb
  cases hv
  obtain ⟨bi, o', cc, hbi, e', hn, hcc, ho, hok⟩ := hxx.sl_inv
  obtain ⟨cells, el, fr, hg, h2, h3, h4, h5⟩ := r.cells hbi hb
  obtain ⟨h6, h7⟩ := h5 (by simp)
  obtain ⟨lo, hi⟩ := fr
  have hset := HRel.set (blk := .cells .ex cs) r hbi hb rfl rfl (w' := w.freeze ⟨bi.blk, cells.size, none⟩ 1) (o := .cells cells el (if lo == hi then (cells.size, cells.size + 1) else (min lo cells.size, max hi (cells.size + 1))))
    (by simp [World.freeze]) (by simp [World.freeze]) (by simp [World.freeze]) (by simp [World.freeze]) (by simp [World.freeze, Array.getElem?_modify, hg]) (fun k hk => by simp [World.freeze, Array.getElem?_modify, Ne.symm hk])
    ⟨cells, el, _, rfl, h2, h3, fun i v v' a b' => h4.2 i v v' a (by
      have hi' : i < cs.length := (List.getElem?_eq_some_iff.1 a).1
      rw [List.getElem?_take, if_pos hi', List.getElem?_drop]; simpa using b'), fun _ => ⟨h6, by
      right
      split
      · simp [h2]
      · rename_i hne
        simp only [beq_iff_eq] at hne
        simp only at h7
        simp only
        omega⟩⟩
  have hsh : w.shape? bi.blk = some (el, cells.size) := by simp [World.shape?, hg]
  have hset' : h.set b (.cells .ex cs) = h := by
    apply List.ext_getElem?
    intro i
    by_cases hi : i = b
    · subst hi; rw [List.getElem?_set_self (List.getElem?_eq_some_iff.1 hb).1, hb]
    · rw [List.getElem?_set_ne (by omega)]
  rw [hset'] at hset
  refine ⟨β, .value (ρc x), w.freeze ⟨bi.blk, cells.size, none⟩ 1, ?_, .inl ⟨_, rfl, hxx⟩, hset.1, hset.2⟩
  simp [execOp, hO, e', convert, run_underlying ht, run_underlying he, markStringish, hsh]

theorem gives_app (r : HRel P CR β h w) {sT uT e : TypeId} {esz bs : Nat} {zs : List V} {tys : List TypeId} {args : Array Operand} {argTypes : Array TypeId} {s x : Operand} {s' x' : Opd} (hargs : args.toList = [s, x]) (htys : argTypes.toList = sT :: uT :: tys)
    (ht : P.underlying sT = some (.slice e)) (hu : ∃ d, P.underlying uT = some d ∧ ∀ k, d ≠ .int k) (hs : sizeOf? P e = some esz) (hb : bytesOf? P e = some bs) (hz : zeros? P e = some zs) (hzs : zs.length = esz)
    (hss : opd s = some s') (hxs : opd x = some x') {v : V} {h' : Heap} (hv : (LOp.app esz bs s' x').ev ρ h = some (v, h')) : GivesL P CR β h w ρc (.call { callee := .builtin .append, args, argTypes }) v h' := by
  intro O hO
  have hsx := hρ _ _ hss
  have hxx := hρ _ _ hxs
  have h1 : args = #[s, x] := by rw [← Array.toArray_toList (xs := args), hargs]
  have h2 : argTypes[0]? = some sT := by rw [← Array.getElem?_toList, htys]; rfl
  have h3 : argTypes[1]? = some uT := by rw [← Array.getElem?_toList, htys]; rfl
  simp only [LOp.ev] at hv
  generalize ρ s' = vs at hv hsx
  generalize ρ x' = vx at hv hxx
  unfold evApp at hv
  simp only [Option.bind_eq_some_iff] at hv
  obtain ⟨⟨n, new⟩, hsrc, hv⟩ := hv
  dsimp only at hv
  split at hv
  case isFalse => cases hv
  rename_i hone
  have hnew := r.src (P := P) hxx hsrc
  have hnewd := (r.alike (w' := w.drew) ⟨rfl, rfl, rfl, rfl⟩).1.src (P := P) hxx hsrc
  obtain ⟨hlen, ys, hf, hys, hyl⟩ := hnew
  obtain ⟨-, ysd, hfd, hysd, hyld⟩ := hnewd
  obtain ⟨d, hu, hd⟩ := hu
  have hnint : ∀ (w' : World), ((do pure ((← underlying uT) matches .int _) : Sem Bool)).run P w' = .ok false w' := by
    intro w'
    simp only [Sem.run_bind, run_underlying hu, Result.andThen_ok]
    cases d <;> first | rfl | exact absurd rfl (hd _)
  -- in place
  have inplace : ∀ (base : Option Addr) (l cc : Nat) (w' : World), ρc s = .slice base l cc → l + n ≤ cc → Stored P base (l * esz) ys w w' →
      (execOp ρc O).run P w = .ok (.value (.slice base (l + n) cc)) w' := by
    intro base l cc w' e1 e2 e3
    simp only [Sem.run_bind, run_underlying hu, Result.andThen_ok] at hnint
    cases base with
    | some a =>
      simp only [Stored] at e3
      simp [execOp, hO, h1, resolve, invoke, builtin, Builtin.append_, h2, h3, e1, run_underlying ht, run_underlying hu, run_sizeOf hs, hnint, hlen, e2, hf, e3]
    | none =>
      simp only [Stored] at e3
      subst e3
      simp [execOp, hO, h1, resolve, invoke, builtin, Builtin.append_, h2, h3, e1, run_underlying ht, run_underlying hu, run_sizeOf hs, hnint, hlen, e2, hf]
  -- into a new array
  have anew : ∀ (base : Option Addr) (l cc : Nat) (old : List Value), ρc s = .slice base l cc → cc < l + n → l + n ≤ 17592186044416 → (l + n) * bs ≤ 17592186044416 →
      (Builtin.firstCells esz l (.slice base l cc)).run P w.drew = .ok old.toArray w.drew → old.length = l * esz →
      ∃ (cells : Array Value) (newCap : Nat), (execOp ρc O).run P w = .ok (.value (.slice (some ⟨w.heap.size, 0, none⟩) (l + n) newCap)) (w.drew.alloc (.cells cells e)) ∧ l + n ≤ newCap ∧ cells.size = newCap * esz ∧ cells.toList.take ((l + n) * esz) = old ++ ysd := by
    intro base l cc old e1 e2 e3 e4 e5 e6
    obtain ⟨cells, newCap, k1, k2, k3, k4⟩ := run_append_new (P := P) (ty := O.type) ht ⟨d, hu, hd⟩ hs hb hz hzs hlen e5 hfd e6 hyld e2 e3 e4
    refine ⟨cells, newCap, ?_, k2, k3, k4⟩
    have hat : argTypes = #[sT, uT] ++ tys.toArray := by
      rw [← Array.toArray_toList (xs := argTypes), htys]; simp
    have : Builtin.append_ argTypes O.type #[.slice base l cc, ρc x] = Builtin.append_ #[sT, uT] O.type #[.slice base l cc, ρc x] := by
      unfold Builtin.append_
      simp only [h2, h3, List.getElem?_toArray, List.getElem?_cons_zero, List.getElem?_cons_succ]
    simp only [execOp, hO, h1, resolve, invoke, builtin]
    simp [e1, this, k1]
  -- the new array's block
  have anewRel : ∀ (h0 : Heap) (r0 : HRel P CR β h0 w) (hl0 : h0.length = h.length) (st0 : Stp β h w β h0 w) (l : Nat) (oldV : List V) (old : List Value) (cells : Array Value) (newCap : Nat), LRel β oldV old → old.length = l * esz → l + n ≤ newCap → cells.size = newCap * esz →
      cells.toList.take ((l + n) * esz) = old ++ ysd →
      ∃ β', VRel β' (.sl esz h.length 0 (l + n) (l + n)) (.slice (some ⟨w.heap.size, 0, none⟩) (l + n) newCap) ∧ HRel P CR β' (h0 ++ [.cells (.gr esz) (oldV ++ new)]) (w.drew.alloc (.cells cells e)) ∧
        Stp β h w β' (h0 ++ [.cells (.gr esz) (oldV ++ new)]) (w.drew.alloc (.cells cells e)) := by
    intro h0 r0 hl0 st0 l oldV old cells newCap k0 k1 k2 k3 k4
    have hnew : LRel β (oldV ++ new) (old ++ ysd) := k0.append hysd
    have hlen2 : (old ++ ysd).length = (l + n) * esz := by simp [k1, hyld, Nat.add_mul]
    have hle : (l + n) * esz ≤ newCap * esz := Nat.mul_le_mul_right esz k2
    have hup : β.le (upd β h0.length ⟨w.heap.size, 0, .gr esz, newCap * esz⟩) := upd_le r0.fresh
    have hp := r0.push (blk := .cells (.gr esz) (oldV ++ new)) (w' := w.drew.alloc (.cells cells e)) (o := .cells cells e) (md := .gr esz) (csz := newCap * esz) ⟨rfl, rfl, rfl, rfl⟩
      (brel_new rfl rfl k3.symm (by rw [hnew.1, hlen2, k3]; exact hle) (fun i v v' a b => ((take_rel hnew hlen2 k4) i v v' a b).mono hup) (.inl rfl))
    rw [← hl0]
    exact ⟨_, .sl (upd_self _ _) (Nat.le_refl _) k2 (fun _ => rfl) (slok_gr rfl (by simp)), hp.1, st0.trans hp.2⟩
  split at hv
  · -- nil
    obtain ⟨a0, e1⟩ := hsx.nils_inv
    split at hv
    · rename_i hn0
      cases hv
      subst hn0
      have hy0 : ys = [] := List.length_eq_zero_iff.1 (by simpa using hyl)
      have := inplace a0 0 0 w e1 (by omega) (by cases a0 <;> simp [Stored, storeCells, hy0])
      exact ⟨β, _, w, this, .inl ⟨_, rfl, .nils a0⟩, r, .refl _ _ _⟩
    · rename_i hn0
      split at hv
      case isFalse => cases hv
      rename_i hc
      cases hv
      obtain ⟨cells, newCap, k1, k2, k3, k4⟩ := anew a0 0 0 [] e1 (by omega) (by omega) (by rw [Nat.zero_add]; exact hc.2) (by cases a0 <;> simp [Builtin.firstCells, loadCells, loadCellsFrom]) (by simp)
      obtain ⟨β', m1, m2, m3⟩ := anewRel h r rfl (.refl _ _ _) 0 [] [] cells newCap .nil (by simp) k2 k3 k4
      simp only [Nat.zero_add, List.nil_append] at m1 m2 m3 k1
      exact ⟨β', _, _, k1, .inl ⟨_, rfl, m1⟩, m2, m3⟩
  · rename_i ee b o l c
    split at hv
    case isFalse => cases hv
    rename_i hee
    subst hee
    obtain ⟨bi, o', cc, hbi, e1, hnc, hcc, ho, hok⟩ := hsx.sl_inv
    split at hv
    · rename_i hn0
      cases hv
      obtain ⟨rfl, hlc⟩ := hn0
      have hy0 : ys = [] := by simpa using hyl
      subst hy0
      have := inplace _ l cc w e1 (by omega) (by simp [Stored, storeCells])
      exact ⟨β, _, w, this, .inl ⟨_, rfl, by rw [Nat.add_zero]; rw [← e1]; exact hsx⟩, r, .refl _ _ _⟩
    · rename_i hn0
      split at hv
      · -- within the known capacity
        rename_i hfit
        simp only [Option.map_eq_some_iff, Prod.mk.injEq] at hv
        obtain ⟨h1', hw, rfl, rfl⟩ := hv
        have hoff : o' = bi.off + o := ho (by omega)
        obtain ⟨w', g3, g4, g5⟩ := r.writeN (P := P) hbi hw hys
        have ha : (⟨bi.blk, o', none⟩ : Addr).add (l * ee) = ⟨bi.blk, bi.off + (o + l * ee), none⟩ := by rw [Addr.add_lit, hoff, Nat.add_assoc]
        have := inplace _ l cc w' e1 (by omega) (by simp only [Stored]; rw [ha]; exact g3)
        exact ⟨β, _, w', this, .inl ⟨_, rfl, .sl hbi hfit hcc ho hok⟩, g4, g5⟩
      · rename_i hnofit
        split at hv
        case isFalse => cases hv
        rename_i hc
        obtain ⟨hc1, hc2, hc3⟩ := hc
        simp only [Option.bind_eq_some_iff] at hv
        obtain ⟨oldV, hold, hv⟩ := hv
        -- the old elements
        have rd : ∀ w', Alike w w' → ∃ old : List Value, (Builtin.firstCells ee l (.slice (some ⟨bi.blk, o', none⟩) l cc)).run P w' = .ok old.toArray w' ∧ LRel β oldV old ∧ old.length = l * ee := by
          intro w' ha
          obtain ⟨a, cc', old, q1, q2, q3, q4⟩ := (r.alike ha).1.readN' (P := P) (x' := ρc s) hsx hold (fun z => by rw [z, Nat.zero_mul])
          rw [e1] at q1
          cases q1
          exact ⟨old, by simpa [Builtin.firstCells] using q2, q3, q4⟩
        obtain ⟨old, q1, q2, q3⟩ := rd w.drew ⟨rfl, rfl, rfl, rfl⟩
        split at hv
        · -- the capacity is known: a new array
          rename_i cs hb'
          cases hv
          obtain ⟨c0, el, fr, hg, i2, i3, i4, i5⟩ := r.cells hbi hb'
          obtain ⟨i6, i7⟩ := i5 (by simp)
          have hcc' : cc = c := by unfold SlOk at hok; rw [i6] at hok; exact hok.1
          obtain ⟨cells, newCap, k1, k2, k3, k4⟩ := anew _ l cc old e1 (by omega) hc2 hc3 q1 q3
          obtain ⟨β', m1, m2, m3⟩ := anewRel h r rfl (.refl _ _ _) l oldV old cells newCap q2 q3 k2 k3 k4
          exact ⟨β', _, _, k1, .inl ⟨_, rfl, m1⟩, m2, m3⟩
        · -- it may lie in place or in a new array
          rename_i e2 cs hb'
          cases hv
          obtain ⟨c0, el, fr, hg, i2, i3, i4, i5⟩ := r.cells hbi hb'
          obtain ⟨i6, i7⟩ := i5 (by simp)
          by_cases hroom : l + n ≤ cc
          · -- in place
            have hbd : ee = e2 ∧ o' + cc * ee ≤ bi.csz := by
              unfold SlOk at hok
              rw [i6] at hok
              rcases hok with hok | hok
              · omega
              · exact hok
            obtain ⟨hee2, hbd⟩ := hbd
            have hmul : (l + n) * ee ≤ cc * ee := Nat.mul_le_mul_right ee hroom
            have hadd : (l + n) * ee = l * ee + n * ee := Nat.add_mul _ _ _
            have hcs : old = (c0.toList.drop o').take (l * ee) := by
              have hll : ((c0.toList.drop o').take (l * ee)).length = l * ee := by simp; omega
              have := run_loadCells_list (P := P) w.drew ⟨bi.blk, o', none⟩ ((c0.toList.drop o').take (l * ee)) (fun j v hv => by
                rw [Addr.add_lit, World.cell?_drew, cell_at hg]
                rw [List.getElem?_take] at hv
                split at hv
                · rw [List.getElem?_drop] at hv
                  simpa using hv
                · cases hv)
              rw [hll] at this
              simp only [Builtin.firstCells] at q1
              rw [this] at q1
              simp only [Result.ok.injEq, and_true] at q1
              exact (List.toArray_inj q1).symm
            have hst := run_stores (P := P) bi.blk (o' + l * ee) el fr ys 0 c0 w hg (by rw [← i2] at i7; exact i7) (by rw [hyl]; omega) (one_cells hys hone)
            simp only [Nat.add_zero] at hst
            have ha : (⟨bi.blk, o', none⟩ : Addr).add (l * ee) = ⟨bi.blk, o' + l * ee, none⟩ := Addr.add_lit _ _ _
            have := inplace _ l cc _ e1 hroom (by simp only [Stored]; rw [ha]; exact hst)
            have hsz : ((c0.toList.take (o' + l * ee) ++ ys ++ c0.toList.drop (o' + l * ee + ys.length)).toArray).size = c0.size := by simp; omega
            have hrel : LRel β (oldV ++ new) (old ++ ys) := q2.append hys
            have hrg := r.regrow (bi' := ⟨bi.blk, o', .gr ee, bi.csz⟩) (blk := .cells (.gr ee) (oldV ++ new)) hbi hb' rfl (w' := w.setRow bi.blk (c0.toList.take (o' + l * ee) ++ ys ++ c0.toList.drop (o' + l * ee + ys.length)).toArray)
              (o := .cells (c0.toList.take (o' + l * ee) ++ ys ++ c0.toList.drop (o' + l * ee + ys.length)).toArray el fr) rfl rfl rfl rfl (by simp) (setRow_heap w _ c0 _ el fr hg) (fun k hk => setRow_other w _ k _ hk)
              ⟨_, el, fr, rfl, by rw [hsz, i2], by rw [hsz, hrel.1]; simp [q3, hyl]; omega, fun i v v' a b' => by
                refine (hrel.2 i v v' a ?_).mono (upd_le r.fresh)
                have hi : i < (l + n) * ee := by
                  have := (List.getElem?_eq_some_iff.1 a).1
                  rw [hrel.1] at this
                  simp [q3, hyl] at this
                  omega
                rw [← b']
                simp only [List.getElem?_toArray]
                have l2 : (c0.toList.take (o' + l * ee)).length = o' + l * ee := by simp; omega
                by_cases k1 : i < l * ee
                · rw [List.getElem?_append_left (by rw [q3]; exact k1), List.append_assoc, List.getElem?_append_left (by rw [l2]; omega), List.getElem?_take, if_pos (by omega)]
                  rw [hcs, List.getElem?_take, if_pos k1, List.getElem?_drop]
                · rw [List.getElem?_append_right (by rw [q3]; omega), List.append_assoc, List.getElem?_append_right (by rw [l2]; omega), List.getElem?_append_left (by rw [l2, hyl]; omega), l2, q3]
                  congr 1
                  omega, fun _ => ⟨rfl, i7⟩⟩
            exact ⟨_, _, _, this, .inl ⟨_, rfl, VRel.sl (bi := ⟨bi.blk, o', .gr ee, bi.csz⟩) (upd_self (β := β) h.length ⟨bi.blk, o', .gr ee, bi.csz⟩) (Nat.le_refl _) hroom (fun _ => rfl) (slok_gr rfl hbd)⟩, hrg.1, hrg.2⟩
          · -- a new array
            obtain ⟨cells, newCap, k1, k2, k3, k4⟩ := anew _ l cc old e1 (by omega) hc2 hc3 q1 q3
            obtain ⟨β', m1, m2, m3⟩ := anewRel (h.set b .dead) (r.kill _ hb') (by simp) (Stp.kill r hb') l oldV old cells newCap q2 q3 k2 k3 k4
            exact ⟨β', _, _, k1, .inl ⟨_, rfl, m1⟩, m2, m3⟩
        · cases hv
  · cases hv

theorem gives_L (r : HRel P CR β h w) {o : Op} {q : LOp} (hc : compL P o = some q) {v : V} {h' : Heap} (hv : q.ev ρ h = some (v, h')) : GivesL P CR β h w ρc o v h' := by
  unfold compL at hc
  split at hc
  · simp only [Option.bind_eq_some_iff] at hc
    obtain ⟨z, hz, a, ha, x, hx, hc⟩ := hc
    cases z with
    | none =>
      dsimp only at hc
      split at hc
      · rename_i hsz
        cases hc
        exact gives_st hρ r hz hsz ha hx hv
      · cases hc
    | some n =>
      cases hc
      exact gives_stN hρ r hz ha hx hv
  · split at hc
    · rename_i s x t u tys ha hty
      split at hc
      · rename_i e e2 ht hu
        simp only [Option.bind_eq_some_iff] at hc
        obtain ⟨z, hz, b, hb, hc⟩ := hc
        split at hc
        case isFalse => cases hc
        rename_i hzs
        simp only [Option.bind_eq_some_iff, Option.map_eq_some_iff] at hc hzs
        obtain ⟨zs, hzz, hzl⟩ := hzs
        obtain ⟨s', hs, x', hx, rfl⟩ := hc
        exact gives_app hρ r ha hty ht ⟨_, hu, fun k => by simp⟩ hz hb hzz hzl hs hx hv
      · rename_i e ht hu
        simp only [Option.bind_eq_some_iff] at hc
        obtain ⟨z, hz, b, hb, hc⟩ := hc
        split at hc
        case isFalse => cases hc
        rename_i hzs
        simp only [Option.bind_eq_some_iff, Option.map_eq_some_iff] at hc hzs
        obtain ⟨zs, hzz, hzl⟩ := hzs
        obtain ⟨s', hs, x', hx, rfl⟩ := hc
        exact gives_app hρ r ha hty ht ⟨_, hu, fun k => by simp⟩ hz hb hzz hzl hs hx hv
      · cases hc
    · cases hc
  · split at hc
    · rename_i d s t tys ha hty
      split at hc
      · rename_i e ht
        simp only [Option.bind_eq_some_iff, Option.map_eq_some_iff] at hc
        obtain ⟨z, hz, d', hd, s', hs, rfl⟩ := hc
        exact gives_cpy hρ r ha hty ht hz hd hs hv
      · cases hc
    · cases hc
  · split at hc
    case isFalse => cases hc
    rename_i hsd
    subst hsd
    split at hc
    · rename_i e ht
      split at hc
      · rename_i he
        simp only [Option.map_eq_some_iff] at hc
        obtain ⟨x', hx, rfl⟩ := hc
        exact gives_mark hρ r ht he hx hv
      · cases hc
    · cases hc
  · cases hc
end

end Go.A

/- Control: steps of a frame of any kind; how code of A stands to code; how frames stand to frames of A. -/
set_option linter.unusedVariables false
set_option linter.unusedSimpArgs false
set_option linter.unusedSectionVars false
namespace Go.A

/-- A frame that runs. -/
def fat (b : Frame) (a : Act) (todo : List Item) : Frame := { b with tmps := a.tmps, todo, defers := a.defers, mode := .run }

theorem fat_eval (b : Frame) (a : Act) (todo : List Item) : (fat b a todo).eval = a.eval := by
  funext x; cases x <;> rfl

section steps
variable {P : Program} {b : Frame} {a : Act} {k : List Item} {cs : List Frame} {w : World} {ops : Array Oper}

theorem fstep_skip : step P (lone (fat b a (.code .skip :: k)) cs w) = .next (lone (fat b a k) cs w) :=
  step_lone_go (by simp [stepG, stepG.exec, fat])

theorem fstep_inBlock {id : Nat} : step P (lone (fat b a (.inBlock id :: k)) cs w) = .next (lone (fat b a k) cs w) :=
  step_lone_go (by simp [stepG, stepG.exec, fat])

theorem fstep_seq {x y : Code} : step P (lone (fat b a (.code (.seq x y) :: k)) cs w) = .next (lone (fat b a (.code x :: .code y :: k)) cs w) :=
  step_lone_go (by simp [stepG, stepG.exec, fat])

theorem fstep_cond {c : Operand} {x y : Code} {t : Bool} (h : a.eval c = .bool t) :
    step P (lone (fat b a (.code (.cond c x y) :: k)) cs w) = .next (lone (fat b a (.code (if t then x else y) :: k)) cs w) :=
  step_lone_go (by
    have := congrFun (fat_eval b a (.code (.cond c x y) :: k)) c
    simp only [fat] at this
    simp [stepG, stepG.exec, fat, this, h])

theorem fstep_block {id : Nat} {c : Code} : step P (lone (fat b a (.code (.block id c) :: k)) cs w) = .next (lone (fat b a (.code c :: .inBlock id :: k)) cs w) :=
  step_lone_go (by simp [stepG, stepG.exec, fat])

theorem fstep_loop {c : Code} : step P (lone (fat b a (.code (.loop c) :: k)) cs w) = .next (lone (fat b a (.code c :: .inLoop c :: k)) cs w) :=
  step_lone_go (by simp [stepG, stepG.exec, fat])

theorem fstep_inLoop {c : Code} : step P (lone (fat b a (.inLoop c :: k)) cs w) = .next (lone (fat b a (.code c :: .inLoop c :: k)) cs w) :=
  step_lone_go (by simp [stepG, stepG.exec, fat])

theorem fstep_exit {id : Nat} {k' : List Item} (h : exitTo id k = some k') : step P (lone (fat b a (.code (.exit id) :: k)) cs w) = .next (lone (fat b a k') cs w) :=
  step_lone_go (by simp [stepG, stepG.exec, fat, h])

theorem fstep_ret (hb : b.roundOf = none) : step P (lone (fat b a (.code .ret :: k)) cs w) = .next (lone { fat b a (.code .ret :: k) with mode := .returning } cs w) :=
  step_lone_go (by simp [stepG, stepG.exec, fat, hb])

theorem fstep_end (hb : b.roundOf = none) : step P (lone (fat b a []) cs w) = .next (lone { fat b a [] with mode := .returning } cs w) :=
  step_lone_go (by simp [stepG, stepG.exec, fat, hb])

theorem fstep_region {id : Nat} : step P (lone (fat b a (.code (.region id ops false) :: k)) cs w) = .next (lone (fat b a (.inRegion ops (List.range ops.size) :: k)) cs w) :=
  step_lone_go (by simp [stepG, stepG.exec, fat])

theorem fstep_region_draw {id : Nat} :
    step P (lone (fat b a (.code (.region id ops true) :: k)) cs w) =
      .next (lone (fat b a (.inRegion ops (Region.schedule (P.follows .mixedOrders) ops (w.tape w.drawn (.order b.fn id))) :: k)) cs { w with drawn := w.drawn + 1 }) :=
  step_lone_go (by simp [stepG, stepG.exec, fat, choose, Sem.run, Question.forced, Question.cut])

theorem fstep_region_end : step P (lone (fat b a (.inRegion ops [] :: k)) cs w) = .next (lone (fat b a k) cs w) :=
  step_lone_go (by simp [stepG, stepG.exec, fat])

theorem fat_finish (b : Frame) (a : Act) (ops : Array Oper) (i : Nat) (rest : List Nat) (k : List Item) (v : Value) :
    (fat b a (.inRegion ops (i :: rest) :: k)).finish v = fat b (a.put ((ops[i]?).bind (·.dst)) v) (.inRegion ops rest :: k) := by
  cases h : (ops[i]?).bind (·.dst) <;> simp [Frame.finish, fat, Act.put, h]

theorem fstep_op_skip {i : Nat} {rest : List Nat} (h : ((ops[i]?).map (Region.wanted · (yielded ops a.tmps))).getD false = false) :
    step P (lone (fat b a (.inRegion ops (i :: rest) :: k)) cs w) =
      .next (lone (fat b (a.put ((ops[i]?).bind (·.dst)) undef) (.inRegion ops rest :: k)) cs w) := by
  rw [← fat_finish]
  exact step_lone_go (by
    have h' := h
    simp only [fat] at *
    simp [stepG, stepG.exec, h'])

/-- What is run for an operation: in a round, a deferred call goes to the loop. -/
theorem fstepG_op {i : Nat} {rest : List Nat} {o : Oper} (ho : ops[i]? = some o) (hw : Region.wanted o (yielded ops a.tmps) = true) (hd : b.roundOf = none ∨ ∀ c, o.op ≠ .defer c) :
    stepG P true { frame := fat b a (.inRegion ops (i :: rest) :: k), callers := cs, status := .running, dying := none } w =
      stepG.apply P true (fat b a (.inRegion ops (i :: rest) :: k)) cs none (execOp a.eval o) w := by
  have he := fat_eval b a (.inRegion ops (i :: rest) :: k)
  simp only [fat] at he
  cases hr : b.roundOf with
  | none =>
    rw [hr] at he
    simp [stepG, stepG.exec, stepG.oper, Frame.oper?, fat, ho, hw, he, hr]
  | some l =>
    have hd' : ∀ c, o.op ≠ .defer c := hd.resolve_left (by rw [hr]; exact fun e => by cases e)
    rw [hr] at he
    simp only [stepG, stepG.exec, stepG.oper, Frame.oper?, fat, ho, hw, hr, Option.map_some, Option.getD_some, if_true]
    rw [he]
    split
    · rename_i c hc; exact absurd hc (hd' _)
    · rfl

end steps

/-- How code of A stands to code that writes temporaries below n. -/
inductive CRel (P : Program) : Nat → Code → ACode → Prop where
  | skip (n : Nat) : CRel P n .skip .skip
  | region {n id : Nat} {ops : Array Oper} {draw : Bool} {a : ACode} (h : compC P (.region id ops draw) = some a) (hd : dstOk n (.region id ops draw) = true) : CRel P n (.region id ops draw) a
  | seq {n : Nat} {c d : Code} {a b : ACode} (h : CRel P n c a) (k : CRel P n d b) : CRel P n (.seq c d) (.seq a b)
  | cond {n : Nat} {x : Operand} {c d : Code} {q : Opd} {a b : ACode} (hq : opd x = some q) (h : CRel P n c a) (k : CRel P n d b) : CRel P n (.cond x c d) (.cond q a b)
  | block {n id : Nat} {c : Code} {a : ACode} (h : CRel P n c a) : CRel P n (.block id c) (.blk id a)
  | loop {n : Nat} {c : Code} {a : ACode} (h : CRel P n c a) : CRel P n (.loop c) (.loop a)
  | rangeFunc {n : Nat} {x : Operand} {ps : Array Tmp} {c d : Code} {q : Opd} {a b : ACode} (hq : opd x = some q) (hp : ∀ p ∈ ps.toList, p < n) (h : CRel P n c a) (k : CRel P n d b) : CRel P n (.rangeFunc x ps c d) (.rngf q ps.toList a b)
  | exit (n id : Nat) : CRel P n (.exit id) (.exit id)
  | ret (n : Nat) : CRel P n .ret .ret
  | keep {n : Nat} {c : Code} {a : ACode} (l : List Nat) (h : CRel P n c a) : CRel P n c (.seq (.keep l) a)

theorem dstOk_mono {n m : Nat} (h : n ≤ m) : ∀ {c : Code}, dstOk n c = true → dstOk m c = true
  | .region _ ops _, e => by
    simp only [dstOk, List.all_eq_true] at e ⊢
    intro o ho
    have := e o ho
    split
    · rename_i d hd
      rw [hd] at this
      have h' : d < n := by simpa using this
      exact decide_eq_true (Nat.lt_of_lt_of_le h' h)
    · rfl
  | .seq a b, e => by simp only [dstOk, Bool.and_eq_true] at e ⊢; exact ⟨dstOk_mono h e.1, dstOk_mono h e.2⟩
  | .cond _ a b, e => by simp only [dstOk, Bool.and_eq_true] at e ⊢; exact ⟨dstOk_mono h e.1, dstOk_mono h e.2⟩
  | .block _ c, e => by simp only [dstOk] at e ⊢; exact dstOk_mono h e
  | .loop c, e => by simp only [dstOk] at e ⊢; exact dstOk_mono h e
  | .rangeFunc _ ps a b, e => by
    simp only [dstOk, Bool.and_eq_true, List.all_eq_true, decide_eq_true_eq] at e ⊢
    exact ⟨fun p hp => Nat.lt_of_lt_of_le (e.1 p hp) h, dstOk_mono h e.2.1, dstOk_mono h e.2.2⟩
  | .skip, _ | .exit _, _ | .ret, _ | .refuse _, _ | .goto _, _ | .label _, _ | .scope _, _ => rfl

theorem CRel.mono {P : Program} {n m : Nat} (h : n ≤ m) {c : Code} {a : ACode} (r : CRel P n c a) : CRel P m c a := by
  induction r with
  | skip => exact .skip _
  | region e hd => exact .region e (dstOk_mono h hd)
  | seq _ _ i j => exact .seq i j
  | cond q _ _ i j => exact .cond q i j
  | block _ i => exact .block i
  | loop _ i => exact .loop i
  | rangeFunc q hp _ _ i j => exact .rangeFunc q (fun p k => Nat.lt_of_lt_of_le (hp p k) h) i j
  | exit => exact .exit _ _
  | ret => exact .ret _
  | keep l _ i => exact .keep l i

/-- What the compiler gives, with marks of what is kept. -/
theorem CRel.of_comp {P : Program} {n : Nat} : ∀ (a : ACode) (c : Code), compC P c = some (erase a) → dstOk n c = true → CRel P n c a := by
  intro a
  induction a with
  | skip => 
    intro c h hd
    cases c <;> simp only [erase, compC, Option.bind_eq_some_iff, reduceCtorEq] at h <;> try contradiction
    case skip => exact .skip _
    case region id ops draw =>
      exact .region (by simp only [compC, Option.bind_eq_some_iff]; exact h) hd
    all_goals (exfalso; simp at h; done)
  | reg l =>
    intro c h hd
    cases c <;> simp only [erase, compC, Option.bind_eq_some_iff, Option.some.injEq, reduceCtorEq] at h <;> try contradiction
    case region id ops draw =>
      exact .region (by simp only [compC, Option.bind_eq_some_iff]; exact h) hd
    all_goals (exfalso; simp at h; done)
  | drw l =>
    intro c h hd
    cases c <;> simp only [erase, compC, Option.bind_eq_some_iff, Option.some.injEq, reduceCtorEq] at h <;> try contradiction
    case region id ops draw =>
      exact .region (by simp only [compC, Option.bind_eq_some_iff]; exact h) hd
    all_goals (exfalso; simp at h; done)
  | exit i =>
    intro c h hd
    cases c <;> simp only [erase, compC, Option.bind_eq_some_iff, Option.some.injEq, reduceCtorEq] at h <;> try contradiction
    case region id ops draw =>
      exact .region (by simp only [compC, Option.bind_eq_some_iff]; exact h) hd
    case exit j => cases h; exact .exit _ _
    all_goals (exfalso; simp at h; done)
  | ret =>
    intro c h hd
    cases c <;> simp only [erase, compC, Option.bind_eq_some_iff, Option.some.injEq, reduceCtorEq] at h <;> try contradiction
    case region id ops draw =>
      exact .region (by simp only [compC, Option.bind_eq_some_iff]; exact h) hd
    case ret => exact .ret _
    all_goals (exfalso; simp at h; done)
  | keep l =>
    intro c h hd
    cases c <;> simp only [erase, compC, Option.bind_eq_some_iff, Option.some.injEq, reduceCtorEq] at h <;> try contradiction
    case region id ops draw =>
      exact .region (by simp only [compC, Option.bind_eq_some_iff]; exact h) hd
    all_goals (exfalso; simp at h; done)
  | seq x y ix iy =>
    intro c h hd
    by_cases hk : ∃ l, x = .keep l
    · obtain ⟨l, rfl⟩ := hk
      simp only [erase] at h
      exact .keep l (iy c h hd)
    · have he : erase (.seq x y) = .seq (erase x) (erase y) := by
        cases x <;> first | rfl | exact absurd ⟨_, rfl⟩ hk
      rw [he] at h
      cases c <;> simp only [compC, Option.bind_eq_some_iff, Option.some.injEq, reduceCtorEq] at h <;> try contradiction
      case region id ops draw =>
        obtain ⟨_, _, h⟩ := h
        split at h
        · split at h <;> cases h
        · cases h
      case seq c d =>
        obtain ⟨x', hx, y', hy, h⟩ := h
        cases h
        simp only [dstOk, Bool.and_eq_true] at hd
        exact .seq (ix c hx hd.1) (iy d hy hd.2)
      all_goals (exfalso; simp at h; done)
  | cond q x y ix iy =>
    intro c h hd
    simp only [erase] at h
    cases c <;> simp only [compC, Option.bind_eq_some_iff, Option.some.injEq, reduceCtorEq] at h <;> try contradiction
    case region id ops draw =>
      obtain ⟨_, _, h⟩ := h
      split at h
      · split at h <;> cases h
      · cases h
    case cond z c d =>
      obtain ⟨q', hq, x', hx, y', hy, h⟩ := h
      cases h
      simp only [dstOk, Bool.and_eq_true] at hd
      exact .cond hq (ix c hx hd.1) (iy d hy hd.2)
    all_goals (exfalso; simp at h; done)
  | blk id x ix =>
    intro c h hd
    simp only [erase] at h
    cases c <;> simp only [compC, Option.bind_eq_some_iff, Option.some.injEq, reduceCtorEq] at h <;> try contradiction
    case region id ops draw =>
      obtain ⟨_, _, h⟩ := h
      split at h
      · split at h <;> cases h
      · cases h
    case block i c =>
      obtain ⟨x', hx, h⟩ := h
      cases h
      exact .block (ix c hx (by simpa [dstOk] using hd))
    all_goals (exfalso; simp at h; done)
  | loop x ix =>
    intro c h hd
    simp only [erase] at h
    cases c <;> simp only [compC, Option.bind_eq_some_iff, Option.some.injEq, reduceCtorEq] at h <;> try contradiction
    case region id ops draw =>
      obtain ⟨_, _, h⟩ := h
      split at h
      · split at h <;> cases h
      · cases h
    case loop c =>
      obtain ⟨x', hx, h⟩ := h
      cases h
      exact .loop (ix c hx (by simpa [dstOk] using hd))
    all_goals (exfalso; simp at h; done)
  | rngf f ps x y ix iy =>
    intro c h hd
    simp only [erase] at h
    cases c <;> simp only [compC, Option.bind_eq_some_iff, Option.some.injEq, reduceCtorEq] at h <;> try contradiction
    case region id ops draw =>
      obtain ⟨_, _, h⟩ := h
      split at h
      · split at h <;> cases h
      · cases h
    case rangeFunc z qs c d =>
      obtain ⟨q', hq, x', hx, y', hy, h⟩ := h
      cases h
      simp only [dstOk, Bool.and_eq_true, List.all_eq_true, decide_eq_true_eq] at hd
      exact .rangeFunc hq hd.1 (ix c hx hd.2.1) (iy d hy hd.2.2)
    all_goals (exfalso; simp at h; done)

end Go.A

/- What frames of A stand for; a step over one operation. -/
set_option linter.unusedVariables false
set_option linter.unusedSimpArgs false
set_option linter.unusedSectionVars false
namespace Go.A

/-- The mode of a frame whose deferred call runs: what it panics with, if it is not recovered. -/
def MR (β : Map) : Option V → FrameMode → Prop
  | none, m => m = .returning ∨ ∃ v, m = .panicking [{ v, recovered := true }]
  | some v, m => ∃ v', VRel β v v' ∧ m = .panicking [{ v := v', recovered := false }]

/-- What recover finds. -/
def UR (β : Map) (kind : CallKind) (rnd : Option Nat) (cs0 : List Frame) : Option (Option V) → List Frame → Prop
  | none, cs => kind = .normal ∧ rnd.isSome = true ∧ cs = cs0
  | some u, cs => rnd = none ∧ ((kind = .normal ∧ u = none ∧ cs = cs0) ∨ (kind = .deferred ∧ ∃ c rest m, cs0 = c :: rest ∧ cs = { c with mode := m } :: rest ∧ MR β u m ∧ (c.mode = .returning → m = .returning)))

def DR1 (β : Map) : Dfr → Deferred → Prop
  | .call f xs, d => ∃ cap, d.target = .fn (.func f) cap ∧ LRel β xs (d.args.toList ++ cap.toList)
  | .coll b, d => ∃ bi, β b = some bi ∧ d.target = .collected bi.blk

def DRel (β : Map) : List Dfr → List Deferred → Prop
  | [], ds => ds = []
  | x :: xs, ds => ∃ y ys, ds = y :: ys ∧ DR1 β x y ∧ DRel β xs ys

/-- How a frame of A stands to a frame. -/
structure FRel (β : Map) (b : Frame) (cs0 : List Frame) (fr : Fr) (a : Act) (cs : List Frame) : Prop where
  t : ERel β fr.t a.tmps
  d : DRel β fr.d a.defers
  u : UR β b.kind b.roundOf cs0 fr.u cs

theorem MR.mono {β β' : Map} (h : β.le β') {u : Option V} {m : FrameMode} (r : MR β u m) : MR β' u m := by
  cases u with
  | none => exact r
  | some v => obtain ⟨v', k, e⟩ := r; exact ⟨v', k.mono h, e⟩

theorem UR.mono {β β' : Map} (h : β.le β') {kind : CallKind} {rnd : Option Nat} {cs0 cs : List Frame} {u : Option (Option V)} (r : UR β kind rnd cs0 u cs) : UR β' kind rnd cs0 u cs := by
  cases u with
  | none => exact r
  | some u =>
    obtain ⟨h1, h2 | ⟨h2, c, rest, m, h3, h4, h5, h6⟩⟩ := r
    · exact ⟨h1, .inl h2⟩
    · exact ⟨h1, .inr ⟨h2, c, rest, m, h3, h4, h5.mono h, h6⟩⟩

theorem DR1.mono {β β' : Map} (h : β.le β') {x : Dfr} {d : Deferred} (r : DR1 β x d) : DR1 β' x d := by
  cases x with
  | call f xs => obtain ⟨cap, h1, h2⟩ := r; exact ⟨cap, h1, h2.mono h⟩
  | coll b => obtain ⟨bi, h1, h2⟩ := r; exact ⟨bi, h _ _ h1, h2⟩

theorem DRel.mono {β β' : Map} (h : β.le β') : ∀ {xs : List Dfr} {ds : List Deferred}, DRel β xs ds → DRel β' xs ds
  | [], _, r => r
  | x :: xs, _, r => by obtain ⟨y, ys, e, h1, h2⟩ := r; exact ⟨y, ys, e, h1.mono h, DRel.mono h h2⟩

theorem FRel.mono {β β' : Map} (h : β.le β') {b : Frame} {cs0 : List Frame} {fr : Fr} {a : Act} {cs : List Frame} (r : FRel β b cs0 fr a cs) : FRel β' b cs0 fr a cs :=
  ⟨r.t.mono h, r.d.mono h, r.u.mono h⟩

/-- The memory of the tables. -/
structure Tab (P : Program) (T : Tbl) (β0 β : Map) (h : Heap) (w : World) : Prop where
  rel : HRel P (CRel P) β0 T.tab w
  ext : β0.le β
  nowr : ∀ b bi, β0 b = some bi → ¬ Wr β h bi.blk
  le : T.tab.length ≤ h.length
  same : ∀ b bi, b < T.tab.length → β b = some bi → β0 b = some bi
  ro : ∀ (b : Nat) (blk : Blk), T.tab[b]? = some blk → blk.wr = false
  tot : Tot β h
  tot0 : Tot β0 T.tab

theorem HRel.still {P : Program} {CR : Nat → Code → ACode → Prop} {β : Map} {h : Heap} {w w' : World} (r : HRel P CR β h w) (hs : w.heap.size ≤ w'.heap.size)
    (hk : ∀ b bi blk, β b = some bi → h[b]? = some blk → blk.live = true → w'.heap[bi.blk]? = w.heap[bi.blk]?) : HRel P CR β h w' := by
  refine ⟨fun b bi e => ⟨(r.dom _ _ e).1, Nat.lt_of_lt_of_le (r.dom _ _ e).2 hs⟩, fun b bi blk e1 e2 hl => ?_, r.uniq⟩
  rw [hk b bi blk e1 e2 hl]
  exact r.blk b bi blk e1 e2 hl

theorem Tab.step {P : Program} {T : Tbl} {β0 β β' : Map} {h h' : Heap} {w w' : World} (t : Tab P T β0 β h w) (s : Stp β h w β' h' w') : Tab P T β0 β' h' w' where
  rel := t.rel.still s.size fun b bi blk e1 _ _ => s.keep _ (t.rel.dom _ _ e1).2 (t.nowr _ _ e1)
  ext := t.ext.trans s.ext
  nowr := fun b bi e hw => by
    rcases s.img _ hw with h1 | h1
    · exact t.nowr _ _ e h1
    · have := (t.rel.dom _ _ e).2; omega
  le := Nat.le_trans t.le s.hsize
  same := fun b bi hb e => t.same b bi hb (s.old b bi (Nat.lt_of_lt_of_le hb t.le) e)
  ro := t.ro
  tot := s.tot t.tot
  tot0 := t.tot0

/-- How a frame is left. -/
def Fin (P : Program) (β : Map) (w : World) (fr : Frame) : Out → Prop
  | .ret v => fr.defers = [] ∧ fr.mode = .returning ∧ ∃ fn v', P.funcs[fr.fn]? = some fn ∧ (results fn fr.tmps).run P w = .ok v' w ∧ VRel β v v'
  | .pan v => fr.defers = [] ∧ ∃ fn v', P.funcs[fr.fn]? = some fn ∧ fr.mode = .panicking [{ v := v', recovered := false }] ∧ VRel β v v'

/-- Where code ends. -/
def Lands (P : Program) (m : Machine) (b : Frame) (k : List Item) (β : Map) (a : Act) (cs : List Frame) (w : World) : Ex → Prop
  | .norm => Steps P m (lone (fat b a k) cs w)
  | .exit id => ∃ k1, exitTo id k1 = exitTo id k ∧ Steps P m (lone (fat b a (.code (.exit id) :: k1)) cs w)
  | .ret => ∃ k1, Steps P m (lone (fat b a (.code .ret :: k1)) cs w)
  | .pan v => ∃ v' todo, VRel β v v' ∧ Steps P m (lone { fat b a todo with mode := .panicking [{ v := v', recovered := false }] } cs w)

def Goes (P : Program) (β : Map) (h : Heap) (w : World) (b : Frame) (cs0 : List Frame) (n : Nat) (m : Machine) (k : List Item) (e : Ex) (fr' : Fr) (h' : Heap) : Prop :=
  ∃ β' w' a' cs', HRel P (CRel P) β' h' w' ∧ Stp β h w β' h' w' ∧ FRel β' b cs0 fr' a' cs' ∧ a'.tmps.size = n ∧ Lands P m b k β' a' cs' w' e

inductive IRel (P : Program) (n : Nat) : Item → ACode → Prop where
  | code {c : Code} {a : ACode} (h : CRel P n c a) : IRel P n (.code c) a
  | inLoop {c : Code} {a : ACode} (h : CRel P n c a) : IRel P n (.inLoop c) (.loop a)

/-- What a recursor computes is what the machine computes. -/
structure RecOk (P : Program) (T : Tbl) (β0 : Map) (r : Rec) : Prop where
  fn : ∀ {f : Nat} {args : List V} {u : Option V} {h : Heap} {y : Out × Option V × Heap}, r.call f args u h = some y → ∃ fn, P.funcs[f]? = some fn ∧ fn.body.isSome = true ∧ fn.name ≠ "runtime.NumGoroutine"
  call : ∀ {f : Nat} {args : List V} {u : Option V} {h : Heap} {o : Out} {u' : Option V} {h' : Heap}, r.call f args u h = some (o, u', h') →
    ∀ {β : Map} {w : World} {args' : Array Value} {kind : CallKind} {cs0 cs : List Frame}, HRel P (CRel P) β h w → Tab P T β0 β h w → LRel β args args'.toList → UR β kind none cs0 (some u) cs →
    ∃ β' w' fr' cs', Steps P (lone (Frame.enter P f args' kind) cs w) (lone fr' cs' w') ∧ UR β' kind none cs0 (some u') cs' ∧ (fr'.kind = kind ∧ fr'.fn = f) ∧ Fin P β' w' fr' o ∧ HRel P (CRel P) β' h' w' ∧ Stp β h w β' h' w'
  code : ∀ {c : ACode} {fr : Fr} {h : Heap} {e : Ex} {fr' : Fr} {h' : Heap}, r.code c fr h = some (e, fr', h') →
    ∀ {β : Map} {w : World} {b : Frame} {a : Act} {k : List Item} {cs0 cs : List Frame} {it : Item}, IRel P a.tmps.size it c → (∃ fn, P.funcs[b.fn]? = some fn) → HRel P (CRel P) β h w → Tab P T β0 β h w → FRel β b cs0 fr a cs →
    Goes P β h w b cs0 a.tmps.size (lone (fat b a (it :: k)) cs w) k e fr' h'

section
variable {P : Program} {T : Tbl} {β0 β : Map} {r : Rec} {h : Heap} {w : World}

theorem ERel.put' {e : Env} {a : Act} (r : ERel β e a.tmps) {v : V} {v' : Value} (hv : VRel β v v') {d : Option Nat}
    (hd : ∀ i, d = some i → i < a.tmps.size) : ERel β (A.put e d v) (a.put d v').tmps := by
  rcases r.put hv d (fun i hi => .inr (.inr trivial)) with h | ⟨i, hi, hk⟩
  · exact h
  · exact absurd (hd i hi) (by omega)

theorem put_size (a : Act) (d : Option Nat) (v : Value) : (a.put d v).tmps.size = a.tmps.size := by
  cases d <;> simp [Act.put]

theorem put_defers (a : Act) (d : Option Nat) (v : Value) : (a.put d v).defers = a.defers := by
  cases d <;> simp [Act.put]

/-- The frame that is entered. -/
def entered (P : Program) : Next → Option Frame
  | .enter f args => some (Frame.enter P f args .normal)
  | .round l f tmps assign body => some (Frame.round l f tmps assign body .normal)
  | _ => none

/-- The caller behind a call. -/
def Back (β : Map) (c : Frame) : Out → Frame → Prop
  | .ret v, c' => ∃ v', VRel β v v' ∧ c' = c.finish v'
  | .pan v, c' => ∃ v', VRel β v v' ∧ c' = c.raise [{ v := v', recovered := false }]

theorem step_fin_normal {fr c : Frame} {cs : List Frame} {o : Out} (hk : fr.kind = .normal) (hf : Fin P β w fr o) :
    ∃ c', Back β c o c' ∧ step P (lone fr (c :: cs) w) = .next (lone c' cs w) := by
  cases o with
  | ret v =>
    obtain ⟨hd, hm, fn, v', hfn, hr, hv⟩ := hf
    exact ⟨_, ⟨v', hv, rfl⟩, step_lone_go (by simp [stepG, unwind, doReturn, hm, hd, hk, hfn, hr])⟩
  | pan v =>
    obtain ⟨hd, fn, v', hfn, hm, hv⟩ := hf
    exact ⟨_, ⟨v', hv, rfl⟩, step_lone_go (by simp [stepG, unwind, Frame.catches, hm, hd, hfn])⟩

/-- What a call of a value does: from the frame that is entered to the caller behind it. -/
def CallGoes (P : Program) (β : Map) (h : Heap) (w : World) (fe : Frame) (o : Out) (h' : Heap) : Prop :=
  ∀ (c : Frame) (cs : List Frame), ∃ β' w' c', Back β' c o c' ∧ Steps P (lone fe (c :: cs) w) (lone c' cs w') ∧ HRel P (CRel P) β' h' w' ∧ Stp β h w β' h' w'

theorem RecOk.plain (hr : RecOk P T β0 r) {f : Nat} {args : List V} {h : Heap} {o : Out} {u' : Option V} {h' : Heap} (e : r.call f args none h = some (o, u', h'))
    {args' : Array Value} (hh : HRel P (CRel P) β h w) (ht : Tab P T β0 β h w) (ha : LRel β args args'.toList) : CallGoes P β h w (Frame.enter P f args' .normal) o h' := by
  intro c cs
  obtain ⟨β', w', fr', cs', h1, h2, h3, h4, h5, h6⟩ := hr.call e (kind := .normal) (cs0 := c :: cs) (cs := c :: cs) hh ht ha ⟨rfl, .inl ⟨rfl, rfl, rfl⟩⟩
  obtain ⟨-, ⟨-, -, rfl⟩ | ⟨hx, -⟩⟩ := h2
  · obtain ⟨c', hb, hs⟩ := step_fin_normal (c := c) (cs := cs) h3.1 h4
    exact ⟨β', w', c', hb, h1.trans (.one hs), h5, h6⟩
  · cases hx

theorem run_callFunc {f : Nat} {fn : Func} (hf : P.funcs[f]? = some fn) (hb : fn.body.isSome = true) (hn : fn.name ≠ "runtime.NumGoroutine") (args : Array Value) (w : World) :
    (callFunc f args).run P w = .ok (.enter f args) w := by
  obtain ⟨c, hc⟩ := Option.isSome_iff_exists.1 hb
  simp [callFunc, Sem.run_bind, program, Sem.run, Result.andThen, hf, hc, hn]

theorem zip_env : ∀ (ps : List Nat) (vs : List V) (vs' : List Value) (env env' : Env) (tmps : Array Value), zipArgs ps vs env = some env' → LRel β vs vs' → ERel β env tmps → (∀ p ∈ ps, p < tmps.size) →
    ps.length = vs'.length ∧ ERel β env' ((ps.zip vs').foldl (fun t (x : Nat × Value) => t.setIfInBounds x.1 x.2) tmps) ∧ ((ps.zip vs').foldl (fun t (x : Nat × Value) => t.setIfInBounds x.1 x.2) tmps).size = tmps.size
  | [], vs, vs', env, env', tmps, e, hl, he, hp => by
    cases vs with
    | nil => rw [hl.inv_nil]; simp [zipArgs] at e; subst e; exact ⟨rfl, by simpa using he, rfl⟩
    | cons v vs => simp [zipArgs] at e
  | p :: ps, vs, vs', env, env', tmps, e, hl, he, hp => by
    cases vs with
    | nil => simp [zipArgs] at e
    | cons v vs =>
      obtain ⟨y, ys, rfl, hv, hl'⟩ := hl.inv_cons
      simp only [zipArgs] at e
      have h1 : ERel β ((p, v) :: env) (tmps.setIfInBounds p y) := by
        have := ERel.put' (a := ⟨tmps, []⟩) he hv (d := some p) (fun i hi => by cases hi; exact hp p (by simp))
        exact this
      obtain ⟨h2, h3, h4⟩ := zip_env ps vs ys _ _ _ e hl' h1 (fun q hq => by simpa using hp q (List.mem_cons_of_mem _ hq))
      exact ⟨by simp [h2], by simpa using h3, by simpa using h4⟩

end
end Go.A

/- Calls of values, and a step over one operation. -/
set_option linter.unusedVariables false
set_option linter.unusedSimpArgs false
set_option linter.unusedSectionVars false
namespace Go.A

variable {P : Program} {T : Tbl} {β0 β : Map} {r : Rec} {h : Heap} {w : World}

/-- A round that ends. -/
theorem step_round_end {b : Frame} {a : Act} {c : Frame} {cs : List Frame} {l : Nat} {L : Loop} (hl : b.roundOf = some l) (hk : b.kind = .normal) (hL : w.heap[l]? = some (.loop L)) {todo : List Item} {jump : Option Code}
    (ht : (todo = [] ∧ jump = none) ∨ (∃ k, todo = .code .ret :: k ∧ jump = some .ret) ∨ (∃ k id, todo = .code (.exit id) :: k ∧ exitTo id k = none ∧ jump = some (.exit id))) :
    step P (lone (fat b a todo) (c :: cs) w) =
      .next (lone (c.finish (.bool jump.isNone)) cs (w.putObj l (.loop { L with state := if jump.isNone then .ready else .done, pending := jump }))) := by
  refine step_lone_go ?_
  rcases ht with ⟨rfl, rfl⟩ | ⟨k, rfl, rfl⟩ | ⟨k, id, rfl, he, rfl⟩
  · simp [stepG, stepG.exec, fat, hl, Sem.runT_eq, run_endRound none hL, doReturn, hk]
  · simp [stepG, stepG.exec, fat, hl, Sem.runT_eq, run_endRound (some .ret) hL, doReturn, hk]
  · simp [stepG, stepG.exec, fat, hl, Sem.runT_eq, run_endRound (some (.exit id)) hL, doReturn, hk, he]

theorem step_round_begin {b : Frame} {a : Act} {cs : List Frame} {l : Nat} {L : Loop} (hl : b.roundOf = some l) (hL : w.heap[l]? = some (.loop L)) (hr : L.state = .ready) {k : List Item} :
    step P (lone (fat b a (.beginRound :: k)) cs w) = .next (lone (fat b a k) cs (w.putObj l (.loop { L with state := .busy }))) := by
  refine step_lone_go ?_
  have : (do b.roundOf.elim (stuck "beginRound: no round") Instr.beginRound; pure Next.skip : Sem Next).run P w = .ok .skip (w.putObj l (.loop { L with state := .busy })) := by
    rw [hl]
    simp [Sem.run_bind, run_beginRound hL hr, Result.andThen]
  simp only [stepG, stepG.exec, fat]
  simp only [stepG.apply, Sem.runT_eq, if_true, this, GStep.bare_after]
  rfl

theorem HRel.loopAt {CR : Nat → Code → ACode → Prop} (r : HRel P CR β h w) {b : Nat} {bi : BI} {st : Nat} {pend : Option Ex} {env : Env} {ps : List Nat} {asg body : ACode} (hb : β b = some bi)
    (hg : h[b]? = some (.loop st pend env ps asg body)) : ∃ L : Loop, w.heap[bi.blk]? = some (.loop L) ∧ L.params.toList = ps ∧ CR L.tmps.size L.assign asg ∧ CR L.tmps.size L.body body ∧ (∀ p ∈ ps, p < L.tmps.size) ∧
      (∃ fn, P.funcs[L.fn]? = some fn) ∧ (∀ i, VRel β (get env i) (L.tmps.getD i Go.undef)) ∧ LSt st pend L := by
  obtain ⟨o, ho, L, rfl, h1⟩ := r.blk b bi _ hb hg rfl
  exact ⟨L, ho, h1⟩

/-- The state of a loop is another one. -/
theorem HRel.loopSet {CR : Nat → Code → ACode → Prop} (r : HRel P CR β h w) {b : Nat} {bi : BI} {st : Nat} {pend : Option Ex} {env : Env} {ps : List Nat} {asg body : ACode} (hb : β b = some bi)
    (hg : h[b]? = some (.loop st pend env ps asg body)) {L : Loop} (hL : w.heap[bi.blk]? = some (.loop L)) {st' : Nat} {pend' : Option Ex} {L' : Loop}
    (hf : L'.fn = L.fn ∧ L'.tmps = L.tmps ∧ L'.params = L.params ∧ L'.assign = L.assign ∧ L'.body = L.body) (hs : LSt st' pend' L') :
    HRel P CR β (h.set b (.loop st' pend' env ps asg body)) (w.putObj bi.blk (.loop L')) ∧ Stp β h w β (h.set b (.loop st' pend' env ps asg body)) (w.putObj bi.blk (.loop L')) := by
  obtain ⟨L0, h0, h1, h2, h3, h4, h5, h6, h7⟩ := r.loopAt hb hg
  rw [hL] at h0
  cases h0
  obtain ⟨g1, g2, g3, g4, g5⟩ := hf
  have hlt := (r.dom _ _ hb).2
  refine r.set hb hg rfl rfl rfl rfl rfl World.putObj_size (World.putObj_heap_same hlt) (fun k hk => World.putObj_heap_other hk) ⟨L', rfl, ?_⟩
  rw [g1, g2, g3, g4, g5]
  exact ⟨h1, h2, h3, h4, h5, h6, hs⟩

theorem step_panic_back {fr c : Frame} {cs : List Frame} {chain : List PanicEntry} (hm : fr.mode = .panicking chain) (hd : fr.defers = []) (hf : ∃ fn, P.funcs[fr.fn]? = some fn) :
    step P (lone fr (c :: cs) w) = .next (lone (c.raise chain) cs w) := by
  obtain ⟨fn, hf⟩ := hf
  exact step_lone_go (by simp [stepG, unwind, Frame.catches, hm, hd, hf])

/-- One round of a loop over a function. -/
theorem round_ok (hr : RecOk P T β0 r) {l : Nat} {args : List V} {o : Out} {h' : Heap} (e : callV r (.fn (.yield l) [] []) args h = some (o, h')) {bi : BI} (hb : β l = some bi)
    {args' : Array Value} (ha : LRel β args args'.toList) (hh : HRel P (CRel P) β h w) (ht : Tab P T β0 β h w) :
    ∃ nx fe, (Instr.yield bi.blk args').run P w = .ok nx w ∧ entered P nx = some fe ∧ CallGoes P β h w fe o h' := by
  simp only [callV] at e
  split at e
  case h_2 => cases e
  rename_i env ps asg body hg
  simp only [Option.bind_eq_some_iff] at e
  obtain ⟨env', he, ⟨e1, fr1, h1⟩, hrun1, e⟩ := e
  obtain ⟨L, hL, q1, q2, q3, q4, q5, q6, q7⟩ := hh.loopAt hb hg
  obtain ⟨z1, z2, z3⟩ := zip_env ps args args'.toList env env' L.tmps he ha q6 q4
  have hsz : args'.size = L.params.size := by
    have : L.params.size = ps.length := by rw [← q1]; simp
    rw [this, z1]; simp
  have hnx := run_yield (P := P) hL hsz
  have hfold : (L.params.zip args').foldl (fun tmps (x : Nat × Value) => tmps.setIfInBounds x.1 x.2) L.tmps = (ps.zip args'.toList).foldl (fun t (x : Nat × Value) => t.setIfInBounds x.1 x.2) L.tmps := by
    rw [← Array.foldl_toList, Array.toList_zip, q1]
  refine ⟨_, _, hnx, rfl, ?_⟩
  intro c cs
  generalize hT : (ps.zip args'.toList).foldl (fun t (x : Nat × Value) => t.setIfInBounds x.1 x.2) L.tmps = tmps at z2 z3 hfold
  have hfe : Frame.round bi.blk L.fn ((L.params.zip args').foldl (fun tmps (t, a) => tmps.setIfInBounds t a) L.tmps) L.assign L.body .normal =
      fat { (default : Frame) with fn := L.fn, kind := .normal, roundOf := some bi.blk } ⟨tmps, []⟩ (.code L.assign :: .beginRound :: [.code L.body]) := by
    rw [← hfold]; rfl
  rw [hfe]
  generalize hbf : ({ (default : Frame) with fn := L.fn, kind := .normal, roundOf := some bi.blk } : Frame) = bf
  have b1 : bf.fn = L.fn := by rw [← hbf]
  have b2 : bf.kind = .normal := by rw [← hbf]
  have b3 : bf.roundOf = some bi.blk := by rw [← hbf]
  have hF : FRel β bf (c :: cs) ⟨env', [], none⟩ ⟨tmps, []⟩ (c :: cs) := ⟨z2, rfl, by rw [b2, b3]; exact ⟨rfl, rfl, rfl⟩⟩
  obtain ⟨β1, w1, a1, cs1, hh1, st1, hF1, hsz1, hland1⟩ := hr.code hrun1 (b := bf) (a := ⟨tmps, []⟩) (k := .beginRound :: [.code L.body]) (cs0 := c :: cs) (cs := c :: cs) (it := .code L.assign) (.code (by simpa [z3] using q2)) (by rw [b1]; exact q5) hh ht hF
  dsimp only at e
  split at e
  case h_2 => cases e
  rename_i env0 ps0 asg0 body0 hd1 hg1
  have hbi1 : β1 l = some bi := st1.ext _ _ hb
  obtain ⟨L1, hL1, p1, p2, p3, p4, p5, p6, p7⟩ := hh1.loopAt hbi1 hg1
  simp only [Lands] at hland1
  have hs1 := step_round_begin (P := P) (b := bf) (a := a1) (cs := cs1) (k := [.code L.body]) b3 hL1 p7.1
  obtain ⟨hh2, st2⟩ := hh1.loopSet (st' := 1) (pend' := none) hbi1 hg1 hL1 (L' := { L1 with state := .busy }) ⟨rfl, rfl, rfl, rfl, rfl⟩ ⟨rfl, p7.2⟩
  simp only [Option.bind_eq_some_iff] at e
  obtain ⟨⟨e2, fr2, h2⟩, hrun2, e⟩ := e
  have ht2 := (ht.step st1).step st2
  obtain ⟨β3, w3, a3, cs3, hh3, st3, hF3, hsz3, hland3⟩ := hr.code hrun2 (b := bf) (a := a1) (k := []) (cs0 := c :: cs) (cs := cs1) (it := .code L.body) (.code (by rw [hsz1]; simpa [z3] using q3)) (by rw [b1]; exact q5) hh2 ht2 hF1
  have hbi3 : β3 l = some bi := st3.ext _ _ hbi1
  have hst : Stp β h w β3 h2 w3 := (st1.trans st2).trans st3
  have hpath : Steps P (lone (fat bf ⟨tmps, []⟩ (.code L.assign :: .beginRound :: [.code L.body])) (c :: cs) w) (lone (fat bf a1 (.code L.body :: [])) cs1 (w1.putObj bi.blk (.loop { L1 with state := .busy }))) :=
    hland1.trans (.one hs1)
  have hu3 : fr2.u = none → cs3 = c :: cs := by
    intro hu
    have := hF3.u
    rw [hu] at this
    exact this.2.2
  have hcs3 : cs3 = c :: cs := by
    have := hF3.u
    cases hu : fr2.u with
    | none => exact hu3 hu
    | some u =>
      rw [hu] at this
      have h0 := this.1
      rw [b3] at h0
      cases h0
  subst hcs3
  dsimp only at e
  split at e
  · rename_i hd3 hg3 
    cases e
    obtain ⟨L3, hL3, p1, p2, p3, p4, p5, p6, p7⟩ := hh3.loopAt hbi3 hg3
    obtain ⟨hh4, st4⟩ := hh3.loopSet (st' := 0) (pend' := none) hbi3 hg3 hL3 (L' := { L3 with state := .ready, pending := none }) ⟨rfl, rfl, rfl, rfl, rfl⟩ ⟨rfl, rfl⟩
    refine ⟨β3, _, _, ⟨.bool true, .bool true, rfl⟩, (hpath.trans hland3).trans (.one (step_round_end b3 b2 hL3 (.inl ⟨rfl, rfl⟩))), hh4, hst.trans st4⟩
  · rename_i id _ _ _ _ hd3 hg3
    cases e
    obtain ⟨L3, hL3, p1, p2, p3, p4, p5, p6, p7⟩ := hh3.loopAt hbi3 hg3
    obtain ⟨hh4, st4⟩ := hh3.loopSet (st' := 2) (pend' := some (.exit id)) hbi3 hg3 hL3 (L' := { L3 with state := .done, pending := some (.exit id) }) ⟨rfl, rfl, rfl, rfl, rfl⟩ ⟨rfl, rfl⟩
    obtain ⟨k1, hk1, hs3⟩ := hland3
    refine ⟨β3, _, _, ⟨.bool false, .bool false, rfl⟩, (hpath.trans hs3).trans (.one (step_round_end b3 b2 hL3 (.inr (.inr ⟨k1, id, rfl, by rw [hk1]; rfl, rfl⟩)))), hh4, hst.trans st4⟩
  · rename_i hd3 hg3
    cases e
    obtain ⟨L3, hL3, p1, p2, p3, p4, p5, p6, p7⟩ := hh3.loopAt hbi3 hg3
    obtain ⟨hh4, st4⟩ := hh3.loopSet (st' := 2) (pend' := some .ret) hbi3 hg3 hL3 (L' := { L3 with state := .done, pending := some .ret }) ⟨rfl, rfl, rfl, rfl, rfl⟩ ⟨rfl, rfl⟩
    obtain ⟨k1, hs3⟩ := hland3
    refine ⟨β3, _, _, ⟨.bool false, .bool false, rfl⟩, (hpath.trans hs3).trans (.one (step_round_end b3 b2 hL3 (.inr (.inl ⟨k1, rfl, rfl⟩)))), hh4, hst.trans st4⟩
  · rename_i v hd3 
    cases e
    obtain ⟨v', todo, hv, hs3⟩ := hland3
    have hd := hF3.d
    rw [hd3] at hd
    refine ⟨β3, w3, _, ⟨v', hv, rfl⟩, (hpath.trans hs3).trans (.one (step_panic_back rfl hd (by simpa [fat, b1] using q5))), hh3, hst⟩
  · cases e

/-- A call of a function value. -/
theorem callV_ok (hr : RecOk P T β0 r) {f : V} {args : List V} {o : Out} {h' : Heap} (e : callV r f args h = some (o, h')) {f' : Value} (hf : VRel β f f') {args' : Array Value} (ha : LRel β args args'.toList)
    (hh : HRel P (CRel P) β h w) (ht : Tab P T β0 β h w) :
    ∃ d nx fe, (Deferred.ofValue f' args').run P w = .ok d w ∧ (invoke d.target d.args).run P w = .ok nx w ∧ entered P nx = some fe ∧ CallGoes P β h w fe o h' := by
  unfold callV at e
  split at e
  · rename_i g first caps
    simp only [Option.map_eq_some_iff] at e
    obtain ⟨⟨o', u', h''⟩, hc, e⟩ := e
    cases e
    obtain ⟨g', ys, us, rfl, h1, h2, ⟨rfl, -⟩ | ⟨l, bi, hl, -⟩⟩ := hf.fn_inv
    · obtain ⟨fn, hfn, hbody, hname⟩ := hr.fn hc
      refine ⟨_, _, _, by simp [Deferred.ofValue]; rfl, by simp only [invoke]; exact run_callFunc hfn hbody hname _ _, rfl, hr.plain hc hh ht ?_⟩
      simpa using (h1.append ha).append h2
    · cases hl
  · rename_i l
    obtain ⟨g', ys, us, rfl, h1, h2, ⟨rfl, hy⟩ | ⟨l', bi, hl, hb, rfl⟩⟩ := hf.fn_inv
    · cases hy
    · cases hl
      have hys : ys = #[] := by simpa using h1.inv_nil
      have hus : us = #[] := by simpa using h2.inv_nil
      subst hys hus
      obtain ⟨nx, fe, q1, q2, q3⟩ := round_ok hr (e := by simpa [callV] using e) hb ha hh ht
      exact ⟨_, nx, fe, by simp [Deferred.ofValue]; rfl, by simpa [invoke] using q1, q2, q3⟩
  · cases e

end Go.A

