/- A small functional semantics for the Go code of this seat: pure values, an instruction set in which types are resolved to numbers of cells and functions are named, and an evaluator with fuel. No theorem of the machine is used here. -/
import GoSem.Dispatch
import Derived.Calls
import Derived.Laws.World
import Derived.Laws.Cells
import Derived.Laws.AppendOwn
import Derived.Laws.IdiomCopy
import Derived.Laws.NewBlocks
namespace Go.Proofs.YtkcbomohgbafoaaDoor
open Go

/-- Values without memory: what a Go value reads as. -/
inductive PD where
  | int (k : IntKind) (n : Int)
  | bool (b : Bool)
  | str (s : List UInt8)
  | list (l : List PD)
  | agg (l : List PD)
  | iface (t : Nat) (d : PD)
  | func (f : Nat) (first cap : List PD)
  | nilI | nilP | nilF | nilM

/-- Names of objects: the calls on the way, then the object's own number. -/
abbrev Id := List Nat

/-- Values of registers and of the cells of boxes. -/
inductive RV where
  | data (d : PD)
  | full (l : List PD)
  | acc (l : List PD) (t : Id)
  | ptr (id : Id) (off : Nat)
  | dref (cells : List PD) (off : Nat)
  | agg (l : List RV)
  | tup (l : List RV)
  | func (f : Nat) (first cap : List RV)
  | mapr (id : Id)
  | yld (r : Id)
  | sl (id : Id) (off n sz : Nat)
  | nils
  | emp

/-- How a piece of code ends. -/
inductive Ex where
  | normal
  | exit (id : Nat)
  | goto (l : Nat)
  | ret
  | panic (d : PD)

/-- A loop over a function: between two rounds, in a round, left. -/
inductive LoopSt where
  | ready
  | busy
  | done (x : Ex)

/-- What lies in the heap of the evaluator. -/
inductive AObj where
  | box (cells : List RV)
  | tok (e sz n : Nat)
  | mp (l : List (List UInt8 × PD))
  | bld (s : List UInt8)
  | lrec (st : LoopSt)
  | dblk

inductive IArg where
  | reg (t : Nat)
  | cst (v : RV)

/-- What kind of scalar: for '=='. -/
inductive EK where
  | b | i | s

inductive IOp where
  | mv (x : IArg)
  | pick (c a b : IArg)
  | alloc (zero : List RV)
  | box (x : IArg)
  | build (zero : List RV) (parts : List (Nat × Nat × IArg))
  | slit (sz : Nat) (parts : List IArg)
  | load (n : Option Nat) (a : IArg)
  | store (n : Nat) (a x : IArg)
  | nilChk (x : IArg)
  | bin (op : BinOp) (x y : IArg)
  | eqB (ne : Bool) (x y : IArg)
  | eqA (ne : Bool) (ks : List EK) (x y : IArg)
  | eqN (ne : Bool) (x y : IArg)
  | eqL (ne : Bool) (x : IArg)
  | mksl (n : Nat) (z : PD)
  | un (op : UnOp) (x : IArg)
  | cvInt (k : IntKind) (x : IArg)
  | cvRune (x : IArg)
  | cvId (x : IArg)
  | cvBytes (x : IArg)
  | cvBytesM (x : IArg)
  | cvStr (x : IArg)
  | mkIface (t : Nat) (x : IArg)
  | mkFunc (f : Nat) (first cap : List IArg)
  | mkMap
  | sub (str : Bool) (sz : Nat) (x : IArg) (lo hi mx : Option IArg)
  | faddr (off : Nat) (x : IArg)
  | fieldv (off : Nat) (n : Option Nat) (x : IArg)
  | iaddr (sz : Nat) (x i : IArg)
  | aaddr (len sz : Nat) (x i : IArg)
  | idxS (x i : IArg)
  | idxA (len sz : Nat) (n : Option Nat) (x i : IArg)
  | look (zero : RV) (ok : Bool) (x k : IArg)
  | mapSet (m k v : IArg)
  | tassert (t : Nat) (ok : Bool) (zero : RV) (x : IArg)
  | extract (i : Nat) (x : IArg)
  | call (f : Nat) (args : List IArg)
  | pcall (f : Nat) (args : List IArg)
  | callv (f : IArg) (args : List IArg)
  | len (str : Bool) (x : IArg)
  | append (e sz bytes : Nat) (s x : IArg)
  | clear (x : IArg)
  | minmax (mx : Bool) (l : List IArg)
  | panic (x : IArg)
  | defer (f : IArg)
  | recover

structure IOper where
  dst : Option Nat
  op : IOp
  guard : Option (Nat × Bool)

inductive ICode where
  | skip
  | region (id : Nat) (live : List Nat) (ops : List IOper)
  | dregion (id : Nat) (live : List Nat) (ops : List IOper)
  | seq (a b : ICode)
  | cond (c : IArg) (a b : ICode)
  | block (id : Nat) (c : ICode)
  | loop (c : ICode)
  | gloop (l : Nat) (c : ICode)
  | rfn (g : IArg) (ps : List Nat) (a b : ICode)
  | exit (id : Nat)
  | goto (l : Nat)
  | ret
  | fail

inductive IRes where
  | reg (t : Nat)
  | cell (a : Nat) (n : Option Nat)

structure IFunc where
  nargs : Nat
  results : List IRes
  body : ICode

/-- Which registers are kept behind each region. -/
def lvOf : ICode → Nat → Option (List Nat)
  | .region i live _, k => if i = k then some live else none
  | .dregion i live _, k => if i = k then some live else none
  | .seq a b, k => match lvOf a k with | some l => some l | none => lvOf b k
  | .cond _ a b, k => match lvOf a k with | some l => some l | none => lvOf b k
  | .block _ c, k => lvOf c k
  | .loop c, k => lvOf c k
  | .gloop _ c, k => lvOf c k
  | .rfn _ _ a b, k => match lvOf a k with | some l => some l | none => lvOf b k
  | _, _ => none

/-- Among the registers kept behind a region: the mark that its conversions to bytes make rows that may be written. -/
def MARK : Nat := 4000000000
def mutO (o : IOper) : IOper := { o with op := match o.op with | .cvBytes x => .cvBytesM x | p => p }
def fixO (m : Bool) (o : IOper) : IOper := if m then mutO o else o

def lvF (F : IFunc) (k : Nat) : List Nat := (lvOf F.body k).getD []

/-- A deferred call, or a loop's mark. -/
inductive DE where
  | call (f : Nat) (vs : List RV)
  | mark (r : Id)

structure St where
  env : Nat → Option RV
  heap : Id → Option AObj
  pre : Id
  next : Nat
  dfs : List DE := []
  rv : Option PD := none

/-- What a call that only takes and gives pure values comes to. -/
inductive POut where
  | ret (l : List PD)
  | pan (d : PD)

/-- What any call comes to. -/
inductive Out where
  | ret (v : RV)
  | pan (d : PD)

def upd {ι α : Type} [DecidableEq ι] (f : ι → Option α) (i : ι) (v : α) : ι → Option α := fun j => if j = i then some v else f j

def St.set (s : St) (r : Nat) (v : RV) : St := { s with env := upd s.env r v }
def St.put (s : St) (r : Option Nat) (v : RV) : St := match r with | some d => s.set d v | none => s
def St.obj (s : St) (i : Id) (o : AObj) : St := { s with heap := upd s.heap i o }

def evArg (env : Nat → Option RV) : IArg → Option RV
  | .reg t => env t
  | .cst v => some v

def evArgs (env : Nat → Option RV) : List IArg → Option (List RV)
  | [] => some []
  | a :: r => (evArg env a).bind fun v => (evArgs env r).bind fun l => some (v :: l)

def allData : List RV → Option (List PD)
  | [] => some []
  | .data d :: r => (allData r).bind fun l => some (d :: l)
  | _ :: _ => none

def mkAgg (l : List RV) : RV := match allData l with | some ds => .data (.agg ds) | none => .agg l
def cellsD : PD → List PD
  | .agg l => l
  | d => [d]
def cellsR : RV → List RV
  | .data d => (cellsD d).map .data
  | .agg l => l
  | v => [v]

mutual
/-- A register's value as a pure one. -/
def toD : RV → Option PD
  | .data d => some d
  | .full l => some (.list l)
  | .acc l _ => some (.list l)
  | .nils => some (.list [])
  | .emp => some (.list [])
  | .agg l => (toDs l).bind fun ds => some (.agg ds)
  | .func f a b => (toDs a).bind fun as => (toDs b).bind fun bs => some (.func f as bs)
  | _ => none
def toDs : List RV → Option (List PD)
  | [] => some []
  | v :: r => (toD v).bind fun d => (toDs r).bind fun l => some (d :: l)
end

/-- A slice's elements, a string's bytes. -/
def elems : RV → Option (List PD)
  | .data (.list l) => some l
  | .full l => some l
  | .acc l _ => some l
  | .nils => some []
  | .emp => some []
  | _ => none

def rdD (cells : List PD) (off : Nat) : Option Nat → Option PD
  | none => cells[off]?
  | some n => if off + n ≤ cells.length then some (.agg ((cells.drop off).take n)) else none
def rdR (cells : List RV) (off : Nat) : Option Nat → Option RV
  | none => cells[off]?
  | some n => if off + n ≤ cells.length then some (mkAgg ((cells.drop off).take n)) else none

def splice {α : Type} : List α → Nat → List α → List α
  | cs, 0, [] => cs
  | _ :: cs, 0, v :: vs => v :: splice cs 0 vs
  | c :: cs, n + 1, vs => c :: splice cs n vs
  | [], _, _ => []

def fillR (env : Nat → Option RV) : List RV → List (Nat × Nat × IArg) → Option (List RV)
  | cs, [] => some cs
  | cs, (off, n, a) :: r => (evArg env a).bind fun
    | .tup _ => none
    | v => if (cellsR v).length = n then (if off + n ≤ cs.length then fillR env (splice cs off (cellsR v)) r else none) else none

def sizeD (sz : Nat) (d : PD) : Bool := (cellsD d).length == sz

def goI (n : Nat) : RV := .data (.int .i64 n)

/-- '==' of two structs of scalars. -/
def eqK : EK → PD → PD → Option Bool
  | .b, .bool a, .bool b => some (a == b)
  | .i, .int k a, .int k' b => if k = k' then some (a == b) else none
  | .s, .str a, .str b => some (a == b)
  | _, _, _ => none
def eqKs : List EK → List PD → List PD → Option Bool
  | [], [], [] => some true
  | k :: ks, a :: x, b :: y => (eqK k a b).bind fun t => (eqKs ks x y).bind fun u => some (t && u)
  | _, _, _ => none
/-- '==' of an interface value and nil. -/
def eqNil : PD → PD → Option Bool
  | .nilI, .nilI => some true
  | .nilI, .iface _ _ => some false
  | .iface _ _, .nilI => some false
  | _, _ => none

/-- Is a slice nil? -/
def nilL : RV → Option Bool
  | .nils => some true
  | .emp => some false
  | .data (.list (_ :: _)) => some false
  | .full (_ :: _) => some false
  | .acc (_ :: _) _ => some false
  | _ => none

def lessS : List UInt8 → List UInt8 → Bool
  | _, [] => false
  | [], _ :: _ => true
  | a :: x, b :: y => a < b || (a == b && lessS x y)

def arith (op : BinOp) (k : IntKind) (a b : Int) : Option PD :=
  match op with
  | .add => some (.int k (k.wrap (a + b)))
  | .sub => some (.int k (k.wrap (a - b)))
  | .mul => some (.int k (k.wrap (a * b)))
  | .quo => if b = 0 then none else some (.int k (k.wrap (a.tdiv b)))
  | .rem => if b = 0 then none else some (.int k (a.tmod b))
  | .and => some (.int k (k.wrap (BitVec.ofInt k.bits a &&& BitVec.ofInt k.bits b).toNat))
  | .or => some (.int k (k.wrap (BitVec.ofInt k.bits a ||| BitVec.ofInt k.bits b).toNat))
  | .xor => some (.int k (k.wrap (BitVec.ofInt k.bits a ^^^ BitVec.ofInt k.bits b).toNat))
  | .andNot => some (.int k (k.wrap (BitVec.ofInt k.bits a &&& ~~~ (BitVec.ofInt k.bits b)).toNat))
  | .eql => some (.bool (a == b))
  | .neq => some (.bool (a != b))
  | .lss => some (.bool (decide (a < b)))
  | .leq => some (.bool (decide (a ≤ b)))
  | .gtr => some (.bool (decide (a > b)))
  | .geq => some (.bool (decide (a ≥ b)))
  | _ => none

def strOp (op : BinOp) (a b : List UInt8) : Option PD :=
  match op with
  | .add => if a.length + b.length ≤ 9223372036854775807 then some (.str (a ++ b)) else none
  | .eql => some (.bool (a == b))
  | .neq => some (.bool (!(a == b)))
  | .lss => some (.bool (lessS a b))
  | .leq => some (.bool (lessS a b || a == b))
  | .gtr => some (.bool (!(lessS a b || a == b)))
  | .geq => some (.bool (!(lessS a b)))
  | _ => none

def binD (op : BinOp) (x y : PD) : Option PD :=
  match x, y with
  | .int k a, .int k' b =>
    match op with
    | .shl => if 0 ≤ b then some (.int k (k.wrap (a * 2 ^ (min b.toNat k.bits)))) else none
    | .shr => if 0 ≤ b then some (.int k (a.fdiv (2 ^ (min b.toNat k.bits)))) else none
    | _ => if k = k' then arith op k a b else none
  | .str a, .str b => strOp op a b
  | _, _ => none

def unD (op : UnOp) (x : PD) : Option PD :=
  match op, x with
  | .neg, .int k n => some (.int k (k.wrap (0 - n)))
  | .not, .bool b => some (.bool (!b))
  | .plus, x => some x
  | _, _ => none

def bytesD (s : List UInt8) : List PD := s.map fun b => .int .u8 b.toNat
def strD : List PD → Option (List UInt8)
  | [] => some []
  | .int .u8 n :: r => (strD r).bind fun l => some (n.toNat.toUInt8 :: l)
  | _ :: _ => none

/-- Bounds of 'x[lo:hi]' over n elements: what is within them. -/
def bound (env : Nat → Option RV) (d : Nat) : Option IArg → Option Nat
  | none => some d
  | some a => (evArg env a).bind fun v =>
    match v with
    | .data (.int _ n) => if 0 ≤ n then some n.toNat else none
    | _ => none

def boundO (env : Nat → Option RV) : Option IArg → Option (Option Nat)
  | none => some none
  | some a => (bound env 0 (some a)).bind fun n => some (some n)

def subS (x : RV) (lo : Nat) (hi : Option Nat) : Option RV :=
  match x with
  | .data (.str s) => if lo ≤ hi.getD s.length ∧ hi.getD s.length ≤ s.length then some (.data (.str ((s.take (hi.getD s.length)).drop lo))) else none
  | _ => none
def subL (sz : Nat) (x : RV) (lo : Nat) (hi : Option Nat) (mx : Option Nat) : Option RV :=
  (elems x).bind fun l =>
    if l.all (sizeD sz) then
      match mx with
      | some m => if lo ≤ hi.getD l.length ∧ hi.getD l.length ≤ l.length ∧ m = hi.getD l.length then some (.full ((l.take (hi.getD l.length)).drop lo)) else none
      | none => if lo ≤ hi.getD l.length ∧ hi.getD l.length ≤ l.length then some (.data (.list ((l.take (hi.getD l.length)).drop lo))) else none
    else none

def outV : List PD → RV
  | [d] => .data d
  | l => .tup (l.map .data)

def look1 (k : List UInt8) : List (List UInt8 × PD) → Option PD
  | [] => none
  | (a, v) :: r => if a == k then some v else look1 k r

inductive OpOut where
  | val (v : RV) (s : St)
  | pan (d : PD) (s : St)

abbrev Heap := Id → Option AObj
/-- What a call of a loop's yield comes to. -/
abbrev Yld := Id → List RV → Heap → Id → Option (RV × Heap)

/-- The calls that code makes: pure ones, and those that share the heap; deferred ones; those that are handed a yield; yields. -/
structure Calls' where
  pure : Nat → List PD → Option POut
  shared : Nat → List RV → (Id → Option AObj) → Id → Option (Out × (Id → Option AObj))
  dfr : Nat → List RV → Option PD → (Id → Option AObj) → Id → Option (Id → Option AObj)
  iter : Yld → Nat → List RV → Heap → Id → Option (Out × Heap) := fun _ _ _ _ _ => none
  yield : Yld := fun _ _ _ _ => none

mutual
/-- Does a value name no object? -/
def noIds : RV → Bool
  | .data _ => true
  | .full _ => true
  | .nils => true
  | .emp => true
  | .dref _ _ => true
  | .agg l => noIdss l
  | .tup l => noIdss l
  | .func _ a b => noIdss a && noIdss b
  | _ => false
def noIdss : List RV → Bool
  | [] => true
  | v :: r => noIds v && noIdss r
end

/-- All objects are forgotten that a call has made. -/
def drop (p : Id) (h : Id → Option AObj) : Id → Option AObj := fun i => if p.isPrefixOf i then none else h i

def after (id : Id) : Out × (Id → Option AObj) → Out × (Id → Option AObj)
  | (.ret v, h) => (.ret v, if noIds v then drop id h else h)
  | (.pan d, h) => (.pan d, drop id h)

def hasYld : List RV → Bool
  | [] => false
  | .yld _ :: _ => true
  | _ :: r => hasYld r

/-- Functions whose result is looked at as it lies, even where all that they take is pure. -/
def shFn : Nat → Bool
  | 92 => true
  | 188 => true
  | 209 => true
  | 217 => true
  | _ => false

def doCall (C : Calls') (id : Id) (f : Nat) (args : List RV) (s : St) : Option OpOut :=
  match (if shFn f then none else toDs args) with
  | some ds => (C.pure f ds).bind fun
    | .ret l => some (.val (outV l) s)
    | .pan d => some (.pan d s)
  | none => ((if hasYld args then C.iter C.yield f args s.heap id else C.shared f args s.heap id).map (after id)).bind fun
    | (.ret v, h) => some (.val v { s with heap := h })
    | (.pan d, h) => some (.pan d { s with heap := h })

def val (s : St) (o : Option RV) : Option OpOut := o.bind fun v => some (.val v s)

def minmaxI (mx : Bool) : List RV → Option PD
  | [.data (.int k a), .data (.int k' b)] => if k = k' then some (.int k (if mx then max a b else min a b)) else none
  | _ => none

def evOp (C : Calls') (id : Id) (o : IOp) (s : St) : Option OpOut :=
  match o with
  | .mv x => val s (evArg s.env x)
  | .cvId x => (evArg s.env x).bind fun
    | .data (.str b) => some (.val (.data (.str b)) s)
    | _ => none
  | .pick c a b => (evArg s.env c).bind fun
    | .data (.bool t) => val s (evArg s.env (if t then a else b))
    | _ => none
  | .alloc zero => some (.val (.ptr id 0) (s.obj id (.box zero)))
  | .box x => (evArg s.env x).bind fun
    | .tup _ => none
    | v => some (.val (.ptr id 0) (s.obj id (.box (cellsR v))))
  | .build zero parts => (fillR s.env zero parts).bind fun cs => some (.val (mkAgg cs) s)
  | .slit sz parts => (evArgs s.env parts).bind fun vs => (toDs vs).bind fun ds =>
      if ds.all (sizeD sz) then some (.val (.full ds) s) else none
  | .load n a => (evArg s.env a).bind fun
    | .ptr i off => (s.heap i).bind fun
      | .box cells => val s (rdR cells off n)
      | _ => none
    | .dref cells off => (rdD cells off n).bind fun d => some (.val (.data d) s)
    | _ => none
  | .store n a x => (evArg s.env a).bind fun
    | .ptr i off => (s.heap i).bind fun
      | .box cells => (evArg s.env x).bind fun
        | .tup _ => none
        | v => if (cellsR v).length = n then (if off + n ≤ cells.length then some (.val (.tup []) (s.obj i (.box (splice cells off (cellsR v))))) else none) else none
      | _ => none
    | _ => none
  | .nilChk x => (evArg s.env x).bind fun
    | .data .nilP | .data .nilI | .data .nilF => none
    | v => some (.val v s)
  | .bin op x y => (evArg s.env x).bind fun
    | .data a => (evArg s.env y).bind fun
      | .data b => (binD op a b).bind fun d => some (.val (.data d) s)
      | _ => none
    | _ => none
  | .eqB ne x y => (evArg s.env x).bind fun
    | .data (.bool a) => (evArg s.env y).bind fun
      | .data (.bool b) => some (.val (.data (.bool (if ne then !(a == b) else a == b))) s)
      | _ => none
    | _ => none
  | .eqA ne ks x y => (evArg s.env x).bind fun
    | .data (.agg a) => (evArg s.env y).bind fun
      | .data (.agg b) => (eqKs ks a b).bind fun t => some (.val (.data (.bool (if ne then !t else t))) s)
      | _ => none
    | _ => none
  | .eqN ne x y => (evArg s.env x).bind fun
    | .data a => (evArg s.env y).bind fun
      | .data b => (eqNil a b).bind fun t => some (.val (.data (.bool (if ne then !t else t))) s)
      | _ => none
    | _ => none
  | .eqL ne x => (evArg s.env x).bind fun v => (nilL v).bind fun t => some (.val (.data (.bool (if ne then !t else t))) s)
  | .mksl n z => some (.val (.full (List.replicate n z)) s)
  | .un op x => (evArg s.env x).bind fun
    | .data a => (unD op a).bind fun d => some (.val (.data d) s)
    | _ => none
  | .cvInt k x => (evArg s.env x).bind fun
    | .data (.int _ n) => some (.val (.data (.int k (k.wrap n))) s)
    | _ => none
  | .cvRune x => (evArg s.env x).bind fun
    | .data (.int _ n) => if 0 ≤ n ∧ n < 128 then some (.val (.data (.str [n.toNat.toUInt8])) s) else none
    | _ => none
  | .cvBytes x => (evArg s.env x).bind fun
    | .data (.str b) => if b.length ≤ 9223372036854775807 then some (.val (.data (.list (bytesD b))) s) else none
    | _ => none
  | .cvBytesM x => (evArg s.env x).bind fun
    | .data (.str b) => if b.length ≤ 9223372036854775807 then some (.val (.sl id 0 b.length 1) (s.obj id (.box ((bytesD b).map .data)))) else none
    | _ => none
  | .cvStr x => (evArg s.env x).bind fun
    | .sl i off n sz => (s.heap i).bind fun
      | .box cells => if sz = 1 ∧ off + n ≤ cells.length then (allData ((cells.drop off).take n)).bind fun l => (strD l).bind fun b => some (.val (.data (.str b)) s) else none
      | _ => none
    | v => (elems v).bind fun l => (strD l).bind fun b => some (.val (.data (.str b)) s)
  | .mkIface t x => (evArg s.env x).bind fun v => (toD v).bind fun d => some (.val (.data (.iface t d)) s)
  | .mkFunc f first cap => (evArgs s.env first).bind fun a => (evArgs s.env cap).bind fun b => some (.val (.func f a b) s)
  | .mkMap => some (.val (.mapr id) (s.obj id (.mp [])))
  | .sub str sz x lo hi mx => (evArg s.env x).bind fun v => (bound s.env 0 lo).bind fun l => (boundO s.env hi).bind fun h => (boundO s.env mx).bind fun m =>
      match str, h, m with
      | true, h, none => val s (subS v l h)
      | false, h, none => val s (subL sz v l h none)
      | false, some h, some m => val s (subL sz v l (some h) (some m))
      | _, _, _ => none
  | .faddr off x => (evArg s.env x).bind fun
    | .ptr i o => some (.val (.ptr i (o + off)) s)
    | .dref cells o => some (.val (.dref cells (o + off)) s)
    | _ => none
  | .fieldv off n x => (evArg s.env x).bind fun
    | .data (.agg l) => (rdD l off n).bind fun d => some (.val (.data d) s)
    | .agg l => val s (rdR l off n)
    | _ => none
  | .iaddr sz x i => (evArg s.env x).bind fun
    | .sl id off m sz' => (evArg s.env i).bind fun
      | .data (.int _ n) => if 0 ≤ n ∧ n.toNat < m ∧ sz' = sz then some (.val (.ptr id (off + n.toNat * sz)) s) else none
      | _ => none
    | v => (elems v).bind fun l => (evArg s.env i).bind fun
      | .data (.int _ n) => if 0 ≤ n then (l[n.toNat]?).bind fun d => if (cellsD d).length = sz then some (.val (.dref (cellsD d) 0) s) else none else none
      | _ => none
  | .aaddr len sz x i => (evArg s.env x).bind fun v => (evArg s.env i).bind fun
    | .data (.int _ n) => if 0 ≤ n ∧ n < len then
        match v with
        | .ptr j o => some (.val (.ptr j (o + n.toNat * sz)) s)
        | .dref cells o => some (.val (.dref cells (o + n.toNat * sz)) s)
        | _ => none
      else none
    | _ => none
  | .idxS x i => (evArg s.env x).bind fun
    | .data (.str b) => (evArg s.env i).bind fun
      | .data (.int _ n) => if 0 ≤ n then (b[n.toNat]?).bind fun c => some (.val (.data (.int .u8 c.toNat)) s) else none
      | _ => none
    | _ => none
  | .idxA len sz n x i => (evArg s.env x).bind fun
    | .data (.agg l) => (evArg s.env i).bind fun
      | .data (.int _ j) => if 0 ≤ j ∧ j < len then (rdD l (j.toNat * sz) n).bind fun d => some (.val (.data d) s) else none
      | _ => none
    | .agg l => (evArg s.env i).bind fun
      | .data (.int _ j) => if 0 ≤ j ∧ j < len then val s (rdR l (j.toNat * sz) n) else none
      | _ => none
    | _ => none
  | .look .. | .mapSet .. => none
  | .tassert t ok zero x => (evArg s.env x).bind fun
    | .data (.iface u d) => if u = t then some (.val (if ok then .tup [.data d, .data (.bool true)] else .data d) s) else none
    | .data .nilI => if ok then some (.val (.tup [zero, .data (.bool false)]) s) else none
    | _ => none
  | .extract i x => (evArg s.env x).bind fun
    | .tup l => val s l[i]?
    | _ => none
  | .call f args => (evArgs s.env args).bind fun vs => doCall C id f vs s
  | .pcall f args => (evArgs s.env args).bind fun vs => (toDs vs).bind fun ds => (C.pure f ds).bind fun
    | .ret l => some (.val (outV l) s)
    | .pan _ => none
  | .callv f args => (evArg s.env f).bind fun
    | .func g a b => (evArgs s.env args).bind fun vs => doCall C id g (a ++ vs ++ b) s
    | .data (.func g a b) => (evArgs s.env args).bind fun vs => doCall C id g (a.map .data ++ vs ++ b.map .data) s
    | .yld r => (evArgs s.env args).bind fun vs => (C.yield r vs s.heap id).bind fun (v, h) => some (.val v { s with heap := h })
    | _ => none
  | .len str x => (evArg s.env x).bind fun v =>
    match str, v with
    | true, .data (.str b) => some (.val (goI b.length) s)
    | false, .sl _ _ n _ => some (.val (goI n) s)
    | false, v => (elems v).bind fun l => some (.val (goI l.length) s)
    | _, _ => none
  | .append e sz bytes a x => (evArg s.env a).bind fun v => (evArg s.env x).bind fun w => (elems w).bind fun more =>
      if more.isEmpty then (elems v).bind fun _ => some (.val v s)
      else if more.all (sizeD sz) then
        match v with
        | .full l =>
            if l.all (sizeD sz) ∧ (l.length + more.length) * bytes ≤ 140737488355328 then some (.val (.acc (l ++ more) id) (s.obj id (.tok e sz (l.length + more.length)))) else none
        | .acc l t => (s.heap t).bind fun
          | .tok e' sz' n => if e' = e ∧ sz' = sz ∧ n = l.length then (if (l.length + more.length) * bytes ≤ 140737488355328 then some (.val (.acc (l ++ more) t) (s.obj t (.tok e sz (l.length + more.length)))) else none) else none
          | _ => none
        | _ => none
      else none
  | .clear _ => none
  | .minmax mx l => (evArgs s.env l).bind fun vs => (minmaxI mx vs).bind fun d => some (.val (.data d) s)
  | .panic x => (evArg s.env x).bind fun
    | .data (.iface t d) => some (.pan (.iface t d) s)
    | _ => none
  | .defer f => (evArg s.env f).bind fun
    | .func g a b => some (.val (.tup []) { s with dfs := .call g (a ++ b) :: s.dfs })
    | _ => none
  | .recover => s.rv.bind fun d => some (.val (.data d) { s with rv := none })

def wanted (env : Nat → Option RV) : Option (Nat × Bool) → Option Bool
  | none => some true
  | some (r, b) => (env r).bind fun
    | .data (.bool c) => some (c == b)
    | .tup [] => some false
    | _ => none

def evOps (C : Calls') : Nat → List IOper → St → Option (Ex × St)
  | _, [], s => some (.normal, s)
  | k, o :: r, s => (wanted s.env o.guard).bind fun t =>
    if t then (evOp C (s.pre ++ [k]) o.op s).bind fun
      | .val v s' => evOps C (k + 1) r (s'.put o.dst v)
      | .pan d s' => some (.panic d, s')
    else evOps C (k + 1) r (s.put o.dst (.tup []))

def keep (env : Nat → Option RV) : List Nat → Nat → Option RV
  | [] => fun _ => none
  | r :: rs => match env r with | some v => upd (keep env rs) r v | none => keep env rs

def seqE (e : Option (Ex × St)) (k : St → Option (Ex × St)) : Option (Ex × St) :=
  e.bind fun (x, s) => match x with | .normal => k s | x => some (x, s)

def iter (f : St → Option (Ex × St)) : Nat → St → Option (Ex × St)
  | 0, _ => none
  | n + 1, s => seqE (f s) (iter f n)

def giter (f : St → Option (Ex × St)) (l : Nat) : Nat → St → Option (Ex × St)
  | 0, _ => none
  | n + 1, s => (f s).bind fun (x, s) => match x with | .goto m => if m = l then giter f l n s else none | x => some (x, s)

def setMany (env : Nat → Option RV) : List Nat → List RV → Option (Nat → Option RV)
  | [], [] => some env
  | p :: ps, v :: vs => setMany (upd env p v) ps vs
  | _, _ => none

/-- A loop's record is forgotten. -/
def forgetI (i : Id) (h : Heap) : Heap := fun j => if j = i then none else h j

/-- A round of a loop over a function. -/
def roundOf (fa fb : St → Option (Ex × St)) (env : Nat → Option RV) (ps : List Nat) (r : Id) : Yld := fun r' vs h id =>
  if r' = r then
    match h r with
    | some (.lrec .ready) =>
      (setMany env ps vs).bind fun e =>
      (fa { env := e, heap := h, pre := id, next := 0 }).bind fun (x, s1) =>
        match x, s1.heap r with
        | .normal, some (.lrec .ready) => (fb { s1 with heap := upd s1.heap r (.lrec .busy) }).bind fun (y, s2) =>
            match s2.heap r, s2.dfs with
            | some (.lrec .busy), [] =>
              match y with
              | .normal => some (.data (.bool true), drop id (upd s2.heap r (.lrec .ready)))
              | .panic _ => none
              | y => some (.data (.bool false), drop id (upd s2.heap r (.lrec (.done y))))
            | _, _ => none
        | _, _ => none
    | _ => none
  else none

/-- What comes behind a loop over a function. -/
def loopEnd (s : St) : Out × Heap → Option (Ex × St)
  | (.pan _, _) => none
  | (.ret _, h) =>
    let s' : St := { s with heap := forgetI (s.pre ++ [s.next + 1]) (drop (s.pre ++ [s.next + 2]) h), next := s.next + 3, dfs := .mark (s.pre ++ [s.next]) :: s.dfs }
    match drop (s.pre ++ [s.next + 2]) h (s.pre ++ [s.next + 1]) with
    | some (.lrec .ready) => some (.normal, s')
    | some (.lrec (.done (.panic _))) => none
    | some (.lrec (.done x)) => some (x, s')
    | _ => none

/-- A number of rounds that no loop within a loop over a function outruns. -/
def bigN : Nat := 1000000000000
/-- Code without a loop over a function. -/
def evC0 (C : Calls') (n : Nat) : ICode → St → Option (Ex × St)
  | .skip, s => some (.normal, s)
  | .region _ live ops, s => (evOps C s.next ops { s with next := s.next + ops.length }).bind fun (x, s') =>
      some (x, { s' with env := keep s'.env live })
  | .dregion _ live ops, s => (evOps C s.next ops { s with next := s.next + ops.length }).bind fun (x, s') =>
      match x with
      | .normal => some (.normal, { s' with env := keep s'.env live })
      | _ => none
  | .seq a b, s => seqE (evC0 C n a s) (evC0 C n b)
  | .cond c a b, s => (evArg s.env c).bind fun
    | .data (.bool t) => if t then evC0 C n a s else evC0 C n b s
    | _ => none
  | .block id c, s => (evC0 C n c s).bind fun (x, s') => match x with | .exit i => if i = id then some (.normal, s') else some (.exit i, s') | x => some (x, s')
  | .loop c, s => iter (evC0 C n c) n s
  | .gloop l c, s => giter (evC0 C n c) l n s
  | .rfn .., _ => none
  | .exit id, s => some (.exit id, s)
  | .goto l, s => some (.goto l, s)
  | .ret, s => some (.ret, s)
  | .fail, _ => none

def evC (C : Calls') (n : Nat) : ICode → St → Option (Ex × St)
  | .skip, s => some (.normal, s)
  | .region _ live ops, s => (evOps C s.next ops { s with next := s.next + ops.length }).bind fun (x, s') =>
      some (x, { s' with env := keep s'.env live })
  | .dregion _ live ops, s => (evOps C s.next ops { s with next := s.next + ops.length }).bind fun (x, s') =>
      match x with
      | .normal => some (.normal, { s' with env := keep s'.env live })
      | _ => none
  | .seq a b, s => seqE (evC C n a s) (evC C n b)
  | .cond c a b, s => (evArg s.env c).bind fun
    | .data (.bool t) => if t then evC C n a s else evC C n b s
    | _ => none
  | .block id c, s => (evC C n c s).bind fun (x, s') => match x with | .exit i => if i = id then some (.normal, s') else some (.exit i, s') | x => some (x, s')
  | .loop c, s => iter (evC C n c) n s
  | .gloop l c, s => giter (evC C n c) l n s
  | .rfn g ps a b, s => (evArg s.env g).bind fun
    | .func f x y => (C.iter (roundOf (evC0 C bigN a) (evC0 C bigN b) s.env ps (s.pre ++ [s.next + 1])) f (x ++ [.yld (s.pre ++ [s.next + 1])] ++ y) (upd (upd s.heap (s.pre ++ [s.next]) .dblk) (s.pre ++ [s.next + 1]) (.lrec .ready)) (s.pre ++ [s.next + 2])).bind (loopEnd s)
    | _ => none
  | .exit id, s => some (.exit id, s)
  | .goto l, s => some (.goto l, s)
  | .ret, s => some (.ret, s)
  | .fail, _ => none

def evRes (s : St) : IRes → Option RV
  | .reg t => s.env t
  | .cell a n => (s.env a).bind fun
    | .ptr i off => (s.heap i).bind fun
      | .box cells => rdR cells off n
      | _ => none
    | _ => none

def evRess (s : St) : List IRes → Option (List RV)
  | [] => some []
  | r :: rs => (evRes s r).bind fun v => (evRess s rs).bind fun l => some (v :: l)

def enter (args : List RV) (i : Nat) : Option RV := args[i]?

def oneOf : List RV → RV
  | [v] => v
  | l => .tup l

/-- The deferred calls: each recovers. -/
def unw (C : Calls') (pre : Id) : List DE → Nat → Option PD → (Id → Option AObj) → Option (Option PD × (Id → Option AObj))
  | [], _, u, h => some (u, h)
  | .call f vs :: r, k, u, h => (C.dfr f vs u h (pre ++ [k])).bind fun h' => unw C pre r (k + 1) none h'
  | .mark d :: r, k, u, h => match h d with
    | some .dblk => unw C pre r k u (forgetI d h)
    | _ => none

def ending (C : Calls') (F : IFunc) (u : Option PD) (s : St) : Option (Out × (Id → Option AObj)) :=
  (unw C s.pre s.dfs s.next u s.heap).bind fun (u', h) =>
    match u' with
    | none => (evRess { s with heap := h } F.results).bind fun l => some (.ret (oneOf l), h)
    | some d => some (.pan d, h)

/-- Runs a function's body. -/
def evBody (C : Calls') (n : Nat) (f : IFunc) (args : List RV) (h : Id → Option AObj) (pre : Id) : Option (Out × (Id → Option AObj)) :=
  if args.length = f.nargs then
    (evC C n f.body { env := enter args, heap := h, pre, next := 0 }).bind fun (x, s) =>
      match x with
      | .normal | .ret => ending C f none s
      | .panic d => ending C f (some d) s
      | _ => none
  else none

/-- Does code recover first of all? -/
def recFirst : ICode → Bool
  | .region _ live (⟨some _, .recover, none⟩ :: _) => !live.contains MARK
  | .seq a _ => recFirst a
  | _ => false

/-- Runs the body of a deferred function, that recovers first of all. -/
def evDfr (C : Calls') (n : Nat) (f : IFunc) (args : List RV) (u : Option PD) (h : Id → Option AObj) (pre : Id) : Option (Id → Option AObj) :=
  if args.length = f.nargs ∧ recFirst f.body = true then
    (evC C n f.body { env := enter args, heap := h, pre, next := 0, rv := some (u.getD .nilI) }).bind fun (x, s) =>
      match x with
      | .normal | .ret => if s.dfs.isEmpty ∧ s.rv.isNone ∧ f.results.isEmpty then some (drop pre s.heap) else none
      | _ => none
  else none

def emptyH : Id → Option AObj := fun _ => none

def pureOut (f : IFunc) : Out × (Id → Option AObj) → Option POut
  | (.ret v, _) =>
    match f.results with
    | [_] => (toD v).bind fun d => some (.ret [d])
    | _ => match v with | .tup l => (toDs l).bind fun ds => (match ds with | [_] => none | ds => some (.ret ds)) | _ => none
  | (.pan d, _) => some (.pan d)

abbrev IProg := Nat → Option IFunc
/-- Functions that are given by their meaning: no code of theirs is looked at. -/
abbrev Prims := Nat → Option (List PD → Option POut)

/-- The calls at a number of rounds. -/
def callsAt (G : IProg) (X : Prims) : Nat → Calls'
  | 0 => { pure := fun _ _ => none, shared := fun _ _ _ _ => none, dfr := fun _ _ _ _ _ => none }
  | n + 1 =>
    { pure := fun f ds =>
        match X f with
        | some g => g ds
        | none => (G f).bind fun F => (evBody (callsAt G X n) n F (ds.map .data) emptyH []).bind (pureOut F)
      shared := fun f vs h pre => (G f).bind fun F => evBody (callsAt G X n) n F vs h pre
      dfr := fun f vs u h pre => (G f).bind fun F => evDfr (callsAt G X n) n F vs u h pre }

end Go.Proofs.YtkcbomohgbafoaaDoor
/- Operations that may change places. -/
set_option linter.unusedVariables false
set_option linter.unusedSimpArgs false
namespace Go.Proofs.YtkcbomohgbafoaaDoor
open Go

def rdA : IArg → List Nat
  | .reg t => [t]
  | .cst _ => []
def rdO : Option IArg → List Nat
  | some a => rdA a
  | none => []
/-- The registers that an operation reads. -/
def reads : IOp → List Nat
  | .mv x | .eqL _ x | .box x | .nilChk x | .un _ x | .cvInt _ x | .cvRune x | .cvId x | .cvBytes x | .cvBytesM x | .cvStr x | .mkIface _ x | .faddr _ x | .fieldv _ _ x | .tassert _ _ _ x | .extract _ x | .len _ x | .clear x | .panic x | .defer x | .load _ x => rdA x
  | .pick c a b => rdA c ++ rdA a ++ rdA b
  | .alloc _ | .mkMap | .recover | .mksl .. => []
  | .build _ l => l.flatMap fun p => rdA p.2.2
  | .slit _ l | .call _ l | .pcall _ l | .minmax _ l => l.flatMap rdA
  | .callv f l => rdA f ++ l.flatMap rdA
  | .mkFunc _ a b => a.flatMap rdA ++ b.flatMap rdA
  | .store _ x y | .bin _ x y | .eqB _ x y | .eqA _ _ x y | .eqN _ x y | .iaddr _ x y | .aaddr _ _ x y | .idxS x y | .idxA _ _ _ x y | .look _ _ x y | .append _ _ _ x y => rdA x ++ rdA y
  | .sub _ _ x l h m => rdA x ++ rdO l ++ rdO h ++ rdO m
  | .mapSet x y z => rdA x ++ rdA y ++ rdA z

/-- What hangs on the registers alone. -/
def isH : IOp → Bool
  | .alloc _ | .mkMap | .recover | .box _ | .cvBytesM _ | .cvStr _ | .clear _ | .panic _ | .defer _ | .load .. | .call .. | .callv .. | .store .. | .look .. | .append .. | .mapSet .. => false
  | _ => true
def isQ : IOp → Bool
  | .load .. => true
  | o => isH o

theorem arg_congr {e e' : Nat → Option RV} {a : IArg} (h : ∀ r ∈ rdA a, e' r = e r) : evArg e' a = evArg e a := by
  cases a with
  | reg t => exact h t (by simp [rdA])
  | cst v => rfl
theorem args_congr {e e' : Nat → Option RV} : ∀ {l : List IArg}, (∀ r ∈ l.flatMap rdA, e' r = e r) → evArgs e' l = evArgs e l
  | [], _ => rfl
  | a :: l, h => by
    simp only [evArgs]
    rw [arg_congr (fun r hr => h r (by simp [hr])), args_congr (fun r hr => h r (by simp only [List.flatMap_cons, List.mem_append]; exact .inr hr))]
theorem fillR_congr {e e' : Nat → Option RV} : ∀ {l : List (Nat × Nat × IArg)} {cs : List RV}, (∀ r ∈ l.flatMap fun p => rdA p.2.2, e' r = e r) → fillR e' cs l = fillR e cs l
  | [], cs, _ => rfl
  | (off, n, a) :: l, cs, h => by
    have h1 := arg_congr (e := e) (e' := e') (a := a) (fun r hr => h r (by simp [hr]))
    have h2 : ∀ cs, fillR e' cs l = fillR e cs l := fun cs => fillR_congr (fun r hr => h r (by simp only [List.flatMap_cons, List.mem_append]; exact .inr hr))
    simp only [fillR, h1, h2]
theorem bound_congr {e e' : Nat → Option RV} {d : Nat} {o : Option IArg} (h : ∀ r ∈ rdO o, e' r = e r) : bound e' d o = bound e d o := by
  cases o with
  | none => rfl
  | some a => simp only [bound, arg_congr (e := e) (e' := e') (a := a) h]
theorem boundO_congr {e e' : Nat → Option RV} {o : Option IArg} (h : ∀ r ∈ rdO o, e' r = e r) : boundO e' o = boundO e o := by
  cases o with
  | none => rfl
  | some a => simp only [boundO, bound_congr (e := e) (e' := e') (o := some a) h]

theorem bind_eq {α β : Type} {o : Option α} {f g : α → Option β} (h : ∀ u, f u = g u) : o.bind f = o.bind g := by
  have : f = g := funext h
  rw [this]

/-- The same outcome at another state. -/
def re (s1 : St) : OpOut → OpOut
  | .val v _ => .val v s1
  | .pan d _ => .pan d s1

/-- An operation that hangs on the registers alone. -/
theorem evH {C : Calls'} {id id' : Id} {o : IOp} (hH : isH o = true) (s s1 : St) (h : s1.env = s.env) : evOp C id' o s1 = (evOp C id o s).map (re s1) := by
  cases o <;> simp only [isH, Bool.false_eq_true] at hH <;> simp only [evOp, val, h, Option.map_bind] <;> (repeat' (first | rfl | (refine bind_eq fun u => ?_) | (simp only [Function.comp_apply, Option.map_bind, Option.map_none, Option.map_some, re]) | split)) <;> (first | rfl | simp_all)

def St.setE (s : St) (e : Nat → Option RV) : St := { s with env := e }
def reE (e : Nat → Option RV) : OpOut → OpOut
  | .val v s => .val v (s.setE e)
  | .pan d s => .pan d (s.setE e)

/-- What isn't read may be another. -/
theorem evE {C : Calls'} {id : Id} {o : IOp} (s : St) (e : Nat → Option RV) (h : ∀ r ∈ reads o, e r = s.env r) : evOp C id o (s.setE e) = (evOp C id o s).map (reE e) := by
  have hA : ∀ a : IArg, (∀ r, r ∈ rdA a → r ∈ reads o) → evArg (s.setE e).env a = evArg s.env a := fun a ha => arg_congr fun r hr => h r (ha r hr)
  have hL : ∀ l : List IArg, (∀ r, r ∈ l.flatMap rdA → r ∈ reads o) → evArgs (s.setE e).env l = evArgs s.env l := fun l ha => args_congr fun r hr => h r (ha r hr)
  have hF : ∀ l : List (Nat × Nat × IArg), (∀ r, r ∈ (l.flatMap fun p => rdA p.2.2) → r ∈ reads o) → ∀ cs, fillR (s.setE e).env cs l = fillR s.env cs l := fun l ha cs => fillR_congr fun r hr => h r (ha r hr)
  have hB : ∀ (d : Nat) (a : Option IArg), (∀ r, r ∈ rdO a → r ∈ reads o) → bound (s.setE e).env d a = bound s.env d a := fun d a ha => bound_congr fun r hr => h r (ha r hr)
  have hO : ∀ a : Option IArg, (∀ r, r ∈ rdO a → r ∈ reads o) → boundO (s.setE e).env a = boundO s.env a := fun a ha => boundO_congr fun r hr => h r (ha r hr)
  have hh : (s.setE e).heap = s.heap := rfl
  have hr : (s.setE e).rv = s.rv := rfl
  cases o with
  | pick c a b =>
    have h1 := hA c (by simp +contextual [reads])
    have h2 := hA a (by simp +contextual [reads])
    have h3 := hA b (by simp +contextual [reads])
    simp only [evOp, val, h1, Option.map_bind]
    refine bind_eq fun u => ?_
    simp only [Function.comp_apply]
    split
    · rename_i t
      cases t
      · simp only [Bool.false_eq_true, if_false, h3, Option.map_bind]; rfl
      · simp only [if_true, h2, Option.map_bind]; rfl
    · rfl
  | call f l =>
    have h1 := hL l (by simp +contextual [reads])
    simp only [evOp, h1, Option.map_bind]
    refine bind_eq fun u => ?_
    simp only [Function.comp_apply, doCall]
    split
    · simp only [Option.map_bind]; refine bind_eq fun u => ?_; cases u <;> rfl
    · simp only [Option.map_bind, hh]; refine bind_eq fun u => ?_; obtain ⟨u, h⟩ := u; cases u <;> rfl
  | callv f l =>
    have h1 := hL l (by simp +contextual [reads])
    have h2 := hA f (by simp +contextual [reads])
    have hd : ∀ g vs, doCall C id g vs (s.setE e) = (doCall C id g vs s).map (reE e) := by
      intro g vs
      simp only [doCall]
      split
      · simp only [Option.map_bind]; refine bind_eq fun u => ?_; cases u <;> rfl
      · simp only [Option.map_bind, hh]; refine bind_eq fun u => ?_; obtain ⟨u, h⟩ := u; cases u <;> rfl
    simp only [evOp, h1, h2, Option.map_bind]
    refine bind_eq fun u => ?_
    simp only [Function.comp_apply]
    split
    · simp only [Option.map_bind, hd]; rfl
    · simp only [Option.map_bind, hd]; rfl
    · simp only [Option.map_bind, hh]; refine bind_eq fun u => ?_; simp only [Function.comp_apply, Option.map_bind]; refine bind_eq fun u => ?_; rfl
    · rfl
  | append et sz bytes a x =>
    have h1 := hA a (by simp +contextual [reads])
    have h2 := hA x (by simp +contextual [reads])
    simp only [evOp, h1, h2, Option.map_bind]
    refine bind_eq fun u => ?_
    simp only [Function.comp_apply, Option.map_bind]
    refine bind_eq fun u' => ?_
    simp only [Function.comp_apply, Option.map_bind]
    refine bind_eq fun l => ?_
    simp only [Function.comp_apply]
    split
    · simp only [Option.map_bind]; rfl
    · split
      · split
        · split <;> rfl
        · simp only [Option.map_bind, hh]
          refine bind_eq fun ob => ?_
          simp only [Function.comp_apply]
          split
          · split
            · split <;> rfl
            · rfl
          · rfl
        · rfl
      · rfl
  | _ =>
    simp +contextual only [reads, List.mem_append, or_true, true_or, implies_true, forall_const] at hA hL hF hB hO
    simp +contextual only [evOp, val, hA, hL, hF, hB, hO, hh, hr, true_or, or_true, implies_true, Option.map_bind]
    (repeat' (first | rfl | (refine bind_eq fun u => ?_) | (simp only [Function.comp_apply, Option.map_bind, Option.map_none, Option.map_some, reE]) | split)) <;> (first | rfl | simp_all)

def isDfr : IOp → Bool
  | .defer _ => true
  | _ => false

def noDfr : ICode → Bool
  | .region _ _ ops | .dregion _ _ ops => ops.all fun o => !isDfr o.op
  | .seq a b | .cond _ a b => noDfr a && noDfr b
  | .block _ c | .loop c | .gloop _ c => noDfr c
  | .rfn .. => false
  | _ => true
end Go.Proofs.YtkcbomohgbafoaaDoor
/- Part of the text. -/
set_option linter.unusedVariables false
set_option linter.unusedSimpArgs false
namespace Go.Proofs.YtkcbomohgbafoaaDoor
open Go

theorem evOp_keeps {C : Calls'} {id : Id} {io : IOp} {s s' : St} {v : RV} (he : evOp C id io s = some (.val v s')) : s'.env = s.env ∧ s'.pre = s.pre ∧ s'.next = s.next := by
  have hd : ∀ g vs, doCall C id g vs s = some (.val v s') → s'.env = s.env ∧ s'.pre = s.pre ∧ s'.next = s.next := by
    intro g vs h
    simp only [doCall] at h
    split at h
    · simp only [Option.bind_eq_some_iff] at h
      obtain ⟨u, _, h⟩ := h
      cases u <;> simp only [Option.some.injEq, OpOut.val.injEq, reduceCtorEq] at h
      obtain ⟨_, rfl⟩ := h
      exact ⟨rfl, rfl, rfl⟩
    · simp only [Option.bind_eq_some_iff] at h
      obtain ⟨⟨u, hh⟩, _, h⟩ := h
      cases u <;> simp only [Option.some.injEq, OpOut.val.injEq, reduceCtorEq] at h
      obtain ⟨_, rfl⟩ := h
      exact ⟨rfl, rfl, rfl⟩
  cases io <;> simp only [evOp, val, Option.bind_eq_some_iff, Option.some.injEq, reduceCtorEq, OpOut.val.injEq] at he
  all_goals (repeat' (first | exact hd _ _ he | (obtain ⟨_, _, he⟩ := he) | (split at he) | (simp only [evOp, val, Option.bind_eq_some_iff, Option.some.injEq, OpOut.val.injEq, reduceCtorEq, and_false, exists_false] at he)))
  all_goals first | (subst he; exact ⟨rfl, rfl, rfl⟩) | (obtain ⟨_, rfl⟩ := he; exact ⟨rfl, rfl, rfl⟩) | simp_all [St.obj]

def core (C : Calls') (b : Nat) (x : Nat × IOper) (s : St) : Option (RV × St) :=
  match wanted s.env x.2.guard with
  | some true => match evOp C (s.pre ++ [b + x.1]) x.2.op s with
    | some (.val v s') => some (v, s')
    | _ => none
  | some false => some (.tup [], s)
  | none => none
def stepI (C : Calls') (b : Nat) (x : Nat × IOper) (s : St) : Option St := (core C b x s).map fun r => r.2.put x.2.dst r.1

def readsO (o : IOper) : List Nat := (match o.guard with | some (r, _) => [r] | none => []) ++ reads o.op
def putE (e : Nat → Option RV) (d : Option Nat) (v : RV) : Nat → Option RV := match d with | some r => upd e r v | none => e

theorem put_setE (s : St) (d : Option Nat) (v : RV) : s.put d v = s.setE (putE s.env d v) := by cases d <;> rfl

section
variable {C : Calls'} {b : Nat} {x : Nat × IOper} {s s' t : St} {v : RV}

theorem core_keeps (h : core C b x s = some (v, s')) : s'.env = s.env ∧ s'.pre = s.pre ∧ s'.next = s.next := by
  unfold core at h
  split at h
  · split at h
    · rename_i he
      simp only [Option.some.injEq, Prod.mk.injEq] at h
      obtain ⟨rfl, rfl⟩ := h
      exact evOp_keeps he
    · simp at h
  · simp only [Option.some.injEq, Prod.mk.injEq] at h
    obtain ⟨_, rfl⟩ := h
    exact ⟨rfl, rfl, rfl⟩
  · simp at h

theorem wanted_congr {e e' : Nat → Option RV} {g : Option (Nat × Bool)} (h : ∀ r, g.map (·.1) = some r → e' r = e r) : wanted e' g = wanted e g := by
  cases g with
  | none => rfl
  | some p => obtain ⟨r, q⟩ := p; simp only [wanted, h r rfl]

theorem core_E {e : Nat → Option RV} (h : ∀ r ∈ readsO x.2, e r = s.env r) : core C b x (s.setE e) = (core C b x s).map fun r => (r.1, r.2.setE e) := by
  have hw : wanted (s.setE e).env x.2.guard = wanted s.env x.2.guard := wanted_congr fun r hr => h r (by
    unfold readsO
    cases hg : x.2.guard with
    | none => simp [hg] at hr
    | some p => simp [hg] at hr; simp [hr])
  have he : evOp C (s.pre ++ [b + x.1]) x.2.op (s.setE e) = (evOp C (s.pre ++ [b + x.1]) x.2.op s).map (reE e) := evE s e fun r hr => h r (by unfold readsO; simp [hr])
  have hp : (s.setE e).pre = s.pre := rfl
  simp only [core, hw, hp, he]
  cases wanted s.env x.2.guard with
  | none => rfl
  | some t =>
    cases t with
    | false => rfl
    | true =>
      cases evOp C (s.pre ++ [b + x.1]) x.2.op s with
      | none => rfl
      | some o => cases o <;> rfl

theorem core_H (hH : isH x.2.op = true) (h : core C b x s = some (v, s')) : s' = s ∧ ∀ t : St, t.env = s.env → core C b x t = some (v, t) := by
  unfold core at h
  split at h
  · rename_i hw
    have hs := evH (C := C) (id := s.pre ++ [b + x.1]) (id' := s.pre ++ [b + x.1]) hH s s rfl
    split at h
    · rename_i v0 s0 he
      simp only [Option.some.injEq, Prod.mk.injEq] at h
      obtain ⟨rfl, rfl⟩ := h
      rw [he] at hs
      simp only [Option.map_some, re, Option.some.injEq, OpOut.val.injEq, true_and] at hs
      refine ⟨hs, fun t ht => ?_⟩
      have h2 := evH (C := C) (id := s.pre ++ [b + x.1]) (id' := t.pre ++ [b + x.1]) hH s t ht
      rw [he] at h2
      simp only [core, ht, hw, h2, Option.map_some, re]
    · simp at h
  · rename_i hw
    simp only [Option.some.injEq, Prod.mk.injEq] at h
    obtain ⟨rfl, rfl⟩ := h
    exact ⟨rfl, fun t ht => by simp only [core, ht, hw]⟩
  · simp at h

theorem core_Q (hQ : isQ x.2.op = true) (h : core C b x s = some (v, s')) : s' = s ∧ ∀ t : St, t.env = s.env → t.heap = s.heap → core C b x t = some (v, t) := by
  by_cases hH : isH x.2.op = true
  · obtain ⟨h1, h2⟩ := core_H hH h
    exact ⟨h1, fun t ht _ => h2 t ht⟩
  · obtain ⟨i, ⟨dst, op, g⟩⟩ := x
    cases op <;> simp only [isQ, isH] at hQ hH <;> try (exact absurd hQ hH)
    rename_i n ad
    unfold core at h
    split at h
    · rename_i hw
      split at h
      · rename_i v0 s0 he
        simp only [Option.some.injEq, Prod.mk.injEq] at h
        obtain ⟨rfl, rfl⟩ := h
        simp only [evOp, Option.bind_eq_some_iff] at he
        obtain ⟨u, h1, h2⟩ := he
        split at h2
        · rename_i i' off
          simp only [Option.bind_eq_some_iff] at h2
          obtain ⟨ob, h3, h4⟩ := h2
          split at h4
          · rename_i cells
            simp only [val, Option.bind_eq_some_iff, Option.some.injEq, OpOut.val.injEq] at h4
            obtain ⟨q, h5, rfl, rfl⟩ := h4
            refine ⟨rfl, fun t ht hh => ?_⟩
            simp only [core, ht, hw, evOp, h1, Option.bind_some, hh, h3, val, h5]
          · simp at h4
        · rename_i cells off
          simp only [Option.bind_eq_some_iff, Option.some.injEq, OpOut.val.injEq] at h2
          obtain ⟨d, h3, rfl, rfl⟩ := h2
          refine ⟨rfl, fun t ht hh => ?_⟩
          simp only [core, ht, hw, evOp, h1, Option.bind_some, h3]
        · simp at h2
      · simp at h
    · rename_i hw
      simp only [Option.some.injEq, Prod.mk.injEq] at h
      obtain ⟨rfl, rfl⟩ := h
      exact ⟨rfl, fun t ht _ => by simp only [core, ht, hw]⟩
    · simp at h

/-- Two operations that may change places. -/
def comm (p q : IOper) : Bool :=
  (match p.dst with | some d => !(readsO q).contains d && q.dst != some d | none => true) && (match q.dst with | some d => !(readsO p).contains d | none => true) && (isH p.op || isH q.op || (isQ p.op && isQ q.op))

theorem putE_out {e : Nat → Option RV} {d : Option Nat} {v : RV} {r : Nat} (h : d ≠ some r) : putE e d v r = e r := by
  cases d with
  | none => rfl
  | some k => simp only [putE, upd]; rw [if_neg (by rintro rfl; exact h rfl)]

theorem putE_comm {e : Nat → Option RV} {d k : Option Nat} {v u : RV} (h : ∀ r, d = some r → k ≠ some r) : putE (putE e d v) k u = putE (putE e k u) d v := by
  funext r
  cases d with
  | none => rfl
  | some d =>
    cases k with
    | none => rfl
    | some k =>
      have hne : k ≠ d := fun e => h d rfl (by rw [e])
      simp only [putE, upd]
      by_cases h1 : r = k
      · subst h1; simp [hne]
      · simp [h1]

theorem stepI_swap {x y : Nat × IOper} (hc : comm x.2 y.2 = true) {s1 s2 : St} (h1 : stepI C b x s = some s1) (h2 : stepI C b y s1 = some s2) : ∃ s1', stepI C b y s = some s1' ∧ stepI C b x s1' = some s2 := by
  simp only [comm, Bool.and_eq_true, Bool.or_eq_true] at hc
  obtain ⟨⟨ha, hb⟩, hcl⟩ := hc
  have hxy : ∀ d, x.2.dst = some d → d ∉ readsO y.2 ∧ y.2.dst ≠ some d := by
    intro d hd
    rw [hd] at ha
    simp at ha
    exact ⟨ha.1, ha.2⟩
  have hyx : ∀ d, y.2.dst = some d → d ∉ readsO x.2 := by
    intro d hd
    rw [hd] at hb
    simpa using hb
  simp only [stepI, Option.map_eq_some_iff] at h1 h2 ⊢
  obtain ⟨⟨v1, t1⟩, g1, rfl⟩ := h1
  obtain ⟨⟨v2, t2⟩, g2, rfl⟩ := h2
  simp only at g2 ⊢
  obtain ⟨k1, k2, k3⟩ := core_keeps g1
  obtain ⟨l1, l2, l3⟩ := core_keeps g2
  rw [put_setE] at g2 l1
  -- the second, at the state behind the first, without the first's result
  have g3 : core C b y t1 = some (v2, t2.setE s.env) := by
    have := core_E (C := C) (b := b) (x := y) (s := t1.setE (putE t1.env x.2.dst v1)) (e := s.env) (fun r hr => by
      show s.env r = putE t1.env x.2.dst v1 r
      rw [putE_out (fun hd => (hxy r hd).1 hr), k1])
    rw [g2] at this
    have e : (t1.setE (putE t1.env x.2.dst v1)).setE s.env = t1 := by
      show t1.setE s.env = t1
      rw [← k1]; rfl
    rw [e] at this
    exact this
  have hfin : ∀ (t : St), t2.setE s.env = t → ((t.setE (putE s.env y.2.dst v2)).put x.2.dst v1) = t2.put y.2.dst v2 := by
    rintro t rfl
    rw [put_setE, put_setE, l1]
    show t2.setE _ = t2.setE _
    congr 1
    show putE (putE s.env y.2.dst v2) x.2.dst v1 = putE (putE t1.env x.2.dst v1) y.2.dst v2
    rw [k1, putE_comm (fun r hr => fun h => (hxy r h).2 hr)]
  have hE : ∀ t : St, t.env = s.env → core C b x t = some (v1, t) → core C b x (t.setE (putE s.env y.2.dst v2)) = some (v1, t.setE (putE s.env y.2.dst v2)) := by
    intro t ht hx
    rw [core_E (fun r hr => by rw [ht]; exact putE_out (fun hd => hyx r hd hr)), hx]
    rfl
  rcases hcl with (hH | hH) | ⟨hQ1, hQ2⟩
  · obtain ⟨rfl, hall⟩ := core_H hH g1
    refine ⟨_, ⟨_, g3, rfl⟩, (v1, (t2.setE t1.env).setE (putE t1.env y.2.dst v2)), ?_, ?_⟩
    · simp only [put_setE]
      exact hE (t2.setE t1.env) rfl (hall _ rfl)
    · exact hfin _ rfl
  · obtain ⟨e2, hall⟩ := core_H hH g3
    have h3 := hall s k1.symm
    refine ⟨_, ⟨_, h3, rfl⟩, (v1, t1.setE (putE s.env y.2.dst v2)), ?_, ?_⟩
    · simp only [put_setE]
      rw [core_E (fun r hr => putE_out (fun hd => hyx r hd hr)), g1]
      rfl
    · exact hfin t1 e2
  · obtain ⟨rfl, hall⟩ := core_Q hQ1 g1
    obtain ⟨e2, _⟩ := core_Q hQ2 g3
    refine ⟨_, ⟨_, g3, rfl⟩, (v1, (t2.setE t1.env).setE (putE t1.env y.2.dst v2)), ?_, ?_⟩
    · simp only [put_setE]
      exact hE (t2.setE t1.env) rfl (hall _ rfl (by rw [e2]))
    · exact hfin _ rfl

end
end Go.Proofs.YtkcbomohgbafoaaDoor
/- From the program's code to the small instruction set: types become numbers of cells, functions become names. 'lv' says which registers are kept behind each region: any choice is sound. -/
namespace Go.Proofs.YtkcbomohgbafoaaDoor
open Go

def cvConst : Value → Option RV
  | .int k n => some (.data (.int k n))
  | .bool b => some (.data (.bool b))
  | .string s => some (.data (.str s.data.toList))
  | .slice none 0 0 => some (.full [])
  | .pointer none => some (.data .nilP)
  | .nilIface => some (.data .nilI)
  | .nilFunc => some (.data .nilF)
  | .map none => some (.data .nilM)
  | _ => none

def cvCells : List Value → Option (List RV)
  | [] => some []
  | v :: r => (cvConst v).bind fun x => (cvCells r).bind fun l => some (x :: l)

/-- A seat's numbers: functions and types of the program and their codes. -/
structure Seat where
  nm : FuncId → Nat
  fi : Nat → FuncId
  tc : TypeId → Nat
  ty : Nat → TypeId

section
variable (P : Program) (Z : Seat)
def zero1 (t : TypeId) : Option RV := ((P.info? t).bind (·.zero)).bind cvConst
/-- A function's code, a type's code: the program's number comes back of it. -/
def cFn (f : FuncId) : Option Nat := if Z.fi (Z.nm f) = f then some (Z.nm f) else none
def cTy (t : TypeId) : Option Nat := if Z.ty (Z.tc t) = t then some (Z.tc t) else none

def szOf (t : TypeId) : Option Nat := (P.info? t).map (·.size)
/-- none: a value of one cell; some n: a struct or an array of n cells. -/
def nOf (t : TypeId) : Option (Option Nat) :=
  match P.underlying t with
  | some (.struct _) | some (.array _ _) => (szOf P t).map some
  | some _ => some none
  | none => none
def zeroOf (t : TypeId) : Option (List RV) := ((P.info? t).bind (·.zero)).bind fun v => cvCells v.cells.toList

def cArg : Operand → Option IArg
  | .tmp t => some (.reg t)
  | .const (.agg cs) => (cvCells cs.toList).map fun l => .cst (mkAgg l)
  | .const v => (cvConst v).map .cst
  | .func f => (cFn Z f).map fun c => .cst (.func c [] [])
  | .global _ => none
def cArgs : List Operand → Option (List IArg)
  | [] => some []
  | a :: r => (cArg Z a).bind fun x => (cArgs r).bind fun l => some (x :: l)
def cOpt : Option Operand → Option (Option IArg)
  | none => some none
  | some a => (cArg Z a).map some

/-- The kinds of a struct's fields, all of them scalars of one cell each. -/
def ekOf (t : TypeId) : Option EK :=
  match P.underlying t with
  | some .bool => some .b
  | some (.int _) => some .i
  | some .string => some .s
  | _ => none
def eksOf (n : Nat) : List Field → Option (List EK)
  | [] => some []
  | f :: r => if f.offset = n ∧ (f.name == "_") = false then (ekOf P f.type).bind fun k => (eksOf (n + 1) r).bind fun l => some (k :: l) else none
def isNil : Operand → Bool
  | .const .nilIface => true
  | _ => false
def isNilS : Operand → Bool
  | .const (.slice none 0 0) => true
  | _ => false
/-- '==' and '!=' by the type. -/
def cEq (ne : Bool) (t : TypeId) (x y : Operand) : Option IOp :=
  (cArg Z x).bind fun ix => (cArg Z y).bind fun iy =>
  match P.underlying t with
  | some (.int _) | some .string => some (.bin (if ne then .neq else .eql) ix iy)
  | some .bool => some (.eqB ne ix iy)
  | some (.struct fs) => if P.stoodInHeld t || P.eqGuardType P.depth t then none else (eksOf P 0 fs.toList).map fun ks => .eqA ne ks ix iy
  | some (.interface _) => if isNil x || isNil y then some (.eqN ne ix iy) else none
  | some (.slice _) => if isNilS y then some (.eqL ne ix) else none
  | _ => none

def cBuild (pl : Nat → Option (Nat × Nat)) : List (Nat × Operand) → Option (List (Nat × Nat × IArg))
  | [] => some []
  | (i, a) :: r => (pl i).bind fun (off, n) => (cArg Z a).bind fun x => (cBuild pl r).bind fun l => some ((off, n, x) :: l)

/-- The parts 0, 1, .., each once. -/
def inOrder : Nat → List (Nat × Operand) → Bool
  | _, [] => true
  | n, (i, _) :: r => i == n && inOrder (n + 1) r

def isStrMap (t : TypeId) : Option TypeId :=
  match P.underlying t with
  | some (.map k e) => if (match P.underlying k with | some .string => true | _ => false) then some e else none
  | _ => none

/-- 'make' of a row of single cells, of a known length. -/
def cMk (t : TypeId) (l k : Operand) : Option IOp :=
  match l, k with
  | .const (.int _ n), .const (.int _ m) =>
    match P.underlying t with
    | some (.slice e) => (P.info? e).bind fun i => (zero1 P e).bind fun
      | .data z => if n = m ∧ 0 < n ∧ n ≤ 1024 ∧ i.size = 1 ∧ i.bytes ≤ 1024 ∧ (cellsD z).length = 1 then some (.mksl n.toNat z) else none
      | _ => none
    | _ => none
  | _, _ => none

def cOp (o : Oper) : Option IOp :=
  match o.op with
  | .move x | .assign x => (cArg Z x).map .mv
  | .pick c a b => (cArg Z c).bind fun c => (cArg Z a).bind fun a => (cArg Z b).bind fun b => some (.pick c a b)
  | .alloc t => (zeroOf P t).map .alloc
  | .box _ x => (cArg Z x).map .box
  | .build t parts => (zeroOf P t).bind fun z =>
    match P.underlying t with
    | some (.struct fs) => if fs.toList.all (fun f => (szOf P f.type).isSome) then (cBuild Z (fun i => (fs[i]?).map fun f => (f.offset, (szOf P f.type).getD 0)) parts.toList).map fun l => .build z l else none
    | some (.array _ e) => (szOf P e).bind fun n => (cBuild Z (fun i => some (i * n, n)) parts.toList).map fun l => .build z l
    | _ => none
  | .buildSlice t len parts =>
    match P.underlying t with
    | some (.slice e) => (szOf P e).bind fun n =>
      if len == parts.size && inOrder 0 parts.toList && n != 0 && decide (len * n ≤ 16777216) && (P.info? e).any (·.zero.isSome) then (cArgs Z (parts.toList.map (·.2))).map fun l => .slit n l else none
    | _ => none
  | .makeSlice t l k => cMk P t l k
  | .load t a => (nOf P t).bind fun n => (cArg Z a).map fun a => .load n a
  | .store t a x => (szOf P t).bind fun n => (cArg Z a).bind fun a => (cArg Z x).map fun x => .store n a x
  | .nilCheck x => (cArg Z x).map .nilChk
  | .binOp .eql t x y _ => cEq P Z false t x y
  | .binOp .neq t x y _ => cEq P Z true t x y
  | .binOp op _ x y _ => (cArg Z x).bind fun x => (cArg Z y).map fun y => .bin op x y
  | .unOp .plus _ _ => none
  | .unOp op _ x => (cArg Z x).map fun x => .un op x
  | .convert s d x =>
    match P.underlying s, P.underlying d with
    | some (.int _), some (.int k) => (cArg Z x).map fun x => .cvInt k x
    | some (.int _), some .string => (cArg Z x).map .cvRune
    | some .string, some .string => (cArg Z x).map .cvId
    | some .string, some (.slice e) => if (match P.underlying e with | some (.int .u8) => true | _ => false) then (cArg Z x).map .cvBytes else none
    | some (.slice e), some .string => if (match P.underlying e with | some (.int .u8) => true | _ => false) then (cArg Z x).map .cvStr else none
    | _, _ => none
  | .makeInterface t x =>
    match P.underlying t with
    | some (.interface _) => none
    | some _ => (cTy Z t).bind fun s => (cArg Z x).map fun x => .mkIface s x
    | none => none
  | .makeFunc (.func f) first cap => (cFn Z f).bind fun c => (cArgs Z first.toList).bind fun a => (cArgs Z cap.toList).map fun b => .mkFunc c a b
  | .makeMap t none => (isStrMap P t).map fun _ => .mkMap
  | .slice t x lo hi mx =>
    match P.underlying t with
    | some .string => (cArg Z x).bind fun x => (cOpt Z lo).bind fun lo => (cOpt Z hi).bind fun hi => (cOpt Z mx).map fun mx => .sub true 0 x lo hi mx
    | some (.slice e) => (szOf P e).bind fun n => (cArg Z x).bind fun x => (cOpt Z lo).bind fun lo => (cOpt Z hi).bind fun hi => (cOpt Z mx).map fun mx => .sub false n x lo hi mx
    | _ => none
  | .fieldAddr t x f =>
    match P.underlying t with
    | some (.struct fs) => (fs[f]?).bind fun fd => if szOf P fd.type == some 0 then none else (szOf P fd.type).bind fun _ => (cArg Z x).map fun x => .faddr fd.offset x
    | _ => none
  | .field t x f =>
    match P.underlying t with
    | some (.struct fs) => (fs[f]?).bind fun fd => (nOf P fd.type).bind fun n => (cArg Z x).map fun x => .fieldv fd.offset n x
    | _ => none
  | .indexAddr t x i =>
    match P.underlying t with
    | some (.slice e) => (szOf P e).bind fun n => if n == 0 then none else (cArg Z x).bind fun x => (cArg Z i).map fun i => .iaddr n x i
    | some (.array len e) => (szOf P e).bind fun n => if n == 0 then none else (cArg Z x).bind fun x => (cArg Z i).map fun i => .aaddr len n x i
    | _ => none
  | .index t x i =>
    match P.underlying t with
    | some .string => (cArg Z x).bind fun x => (cArg Z i).map fun i => .idxS x i
    | some (.array len e) => (szOf P e).bind fun n => (nOf P e).bind fun k => (cArg Z x).bind fun x => (cArg Z i).map fun i => .idxA len n k x i
    | _ => none
  | .lookup t x k ok => (isStrMap P t).bind fun e => (zero1 P e).bind fun z => (cArg Z x).bind fun x => (cArg Z k).map fun k => .look z ok x k
  | .mapUpdate t m k v => (isStrMap P t).bind fun _ => (cArg Z m).bind fun m => (cArg Z k).bind fun k => (cArg Z v).map fun v => .mapSet m k v
  | .typeAssert x _ t ok =>
    match P.underlying t with
    | some (.interface _) => none
    | some _ => (cTy Z t).bind fun s => (zero1 P t).bind fun z => (cArg Z x).map fun x => .tassert s ok z x
    | none => none
  | .extract x i => (cArg Z x).map fun x => .extract i x
  | .call { callee := .value (.func f), args, .. } => (cFn Z f).bind fun c => (cArgs Z args.toList).map fun l => .call c l
  | .call { callee := .value g, args, .. } => (cArg Z g).bind fun g => (cArgs Z args.toList).map fun l => .callv g l
  | .call { callee := .builtin .len, args, argTypes } =>
    match args.toList, (argTypes[0]?).bind P.underlying with
    | [x], some .string => (cArg Z x).map fun x => .len true x
    | [x], some (.slice _) => (cArg Z x).map fun x => .len false x
    | _, _ => none
  | .call { callee := .builtin .append, args, argTypes } =>
    match args.toList, argTypes.toList with
    | [s, x], [t, t'] =>
      match P.underlying t with
      | some (.slice e) => (P.info? e).bind fun i => if t' = t ∧ i.size ≠ 0 ∧ i.bytes ≠ 0 ∧ (i.zero.map (·.cells.size)) = some i.size then (cTy Z e).bind fun c => (cArg Z s).bind fun s => (cArg Z x).map fun x => .append c i.size i.bytes s x else none
      | _ => none
    | _, _ => none
  | .call { callee := .builtin .clear, args, argTypes } =>
    match args.toList, (argTypes[0]?).bind (isStrMap P) with
    | [x], some _ => (cArg Z x).map .clear
    | _, _ => none
  | .call { callee := .builtin .max, args, .. } => (cArgs Z args.toList).map fun l => .minmax true l
  | .call { callee := .builtin .min, args, .. } => (cArgs Z args.toList).map fun l => .minmax false l
  | .panic x => (cArg Z x).map .panic
  | .defer { callee := .value g, args, .. } => if args.isEmpty then (cArg Z g).map .defer else none
  | .call { callee := .builtin .recover, .. } => some .recover
  | _ => none

theorem cMk_some {t : TypeId} {l k : Operand} {io : IOp} (h : cMk P t l k = some io) : ∃ n z, io = .mksl n z := by
  unfold cMk at h
  split at h
  · split at h
    · simp only [Option.bind_eq_some_iff] at h
      obtain ⟨i, _, z, _, h⟩ := h
      split at h
      · split at h
        · simp only [Option.some.injEq] at h; exact ⟨_, _, h.symm⟩
        · simp at h
      · simp at h
    · simp at h
  · simp at h

def cGuard (ops : Array Oper) : Option (Nat × Bool) → Option (Option (Nat × Bool))
  | none => some none
  | some (j, b) => ((ops[j]?).bind (·.dst)).map fun d => some (d, b)

def cOper (nt : Nat) (ops : Array Oper) (o : Oper) : Option IOper :=
  if (o.dst.map (fun d => decide (d < nt))).getD true then (cOp P Z o).bind fun op => (cGuard ops o.guard).map fun g => { dst := o.dst, op, guard := g } else none
def cOpers (nt : Nat) (ops : Array Oper) : List Oper → Option (List IOper)
  | [] => some []
  | o :: r => (cOper P Z nt ops o).bind fun x => (cOpers nt ops r).bind fun l => some (x :: l)

/-- The operations behind which one has to stand, in every mode. -/
def aftOf (ops : Array Oper) (j : Nat) : List Nat :=
  match ops[j]? with
  | some o => (o.after.toList.filter (Region.binds .any)).map (·.on)
  | none => []
def reachB (aft : Nat → List Nat) : Nat → Nat → Nat → Bool
  | 0, _, _ => false
  | f + 1, j, i => (aft j).contains i || (aft j).any fun z => reachB aft f z i
/-- May a region's operations be run in their own order, whatever order the machine draws? -/
def drawOK (ops : Array Oper) (is : List IOper) : Bool :=
  (List.range ops.size).all fun j => (match ops[j]? with | some o => o.after.toList.all fun e => decide (e.on < j) | none => true) &&
    (List.range j).all fun i => (match is[i]?, is[j]? with | some p, some q => comm p q | _, _ => false) || reachB (aftOf ops) j j i
/-- Calls of pure values, where the order is drawn. -/
def pureCall (o : IOper) : IOper := { o with op := match o.op with | .call f l => if shFn f then .call f l else .pcall f l | p => p }

def cCode (lv : Nat → List Nat) (nt : Nat) : Code → ICode
  | .skip | .label _ => .skip
  | .region id ops false => match cOpers P Z nt ops ops.toList with | some l => .region id (lv id) (l.map (fixO ((lv id).contains MARK))) | none => .fail
  | .region id ops true => match cOpers P Z nt ops ops.toList with | some l => if drawOK ops (l.map pureCall) then .dregion id (lv id) (l.map pureCall) else .fail | none => .fail
  | .seq a b => .seq (cCode lv nt a) (cCode lv nt b)
  | .cond c a b => match cArg Z c with | some c => .cond c (cCode lv nt a) (cCode lv nt b) | none => .fail
  | .block id c => .block id (cCode lv nt c)
  | .loop c => .loop (cCode lv nt c)
  | .exit id => .exit id
  | .goto l => .goto l
  | .ret => .ret
  | .scope (.seq (.label l) c) => .gloop l (cCode lv nt c)
  | .rangeFunc g ps a b => match cArg Z g with | some ig => if noDfr (cCode lv nt a) && noDfr (cCode lv nt b) && ps.toList.all (fun p => decide (p < nt)) then .rfn ig ps.toList (cCode lv nt a) (cCode lv nt b) else .fail | none => .fail
  | .scope _ | .refuse _ => .fail

def cRes : ResultVar → Option IRes
  | .tmp t => some (.reg t)
  | .cell a t => (nOf P t).map fun n => .cell a n
def cRess : List ResultVar → Option (List IRes)
  | [] => some []
  | r :: rs => (cRes P r).bind fun x => (cRess rs).bind fun l => some (x :: l)

def cFunc (lv : Nat → List Nat) (f : Func) : Option IFunc :=
  f.body.bind fun c => (cRess P f.results.toList).bind fun rs =>
    if f.params.size + f.nfree ≤ f.ntmps then some { nargs := f.params.size + f.nfree, results := rs, body := cCode P Z lv f.ntmps c } else none
end

end Go.Proofs.YtkcbomohgbafoaaDoor
/- What the evaluator's values say of the machine's memory, and how that is kept. -/
set_option linter.unusedVariables false
set_option linter.unusedSimpArgs false
namespace Go.Proofs.YtkcbomohgbafoaaDoor
open Go

/-- The part of memory that nobody writes any more. -/
abbrev IView := Nat → Nat → Option Value
def IView.le (I J : IView) : Prop := ∀ b o v, I b o = some v → J b o = some v
theorem IView.le_refl (I : IView) : I.le I := fun _ _ _ h => h
theorem IView.le_trans {I J K : IView} (h : I.le J) (h' : J.le K) : I.le K := fun b o v hv => h' b o v (h b o v hv)

section
variable (Z : Seat)

mutual
def RepD (I : IView) : PD → Value → Prop
  | .int k n, v => v = .int k n
  | .bool b, v => v = .bool b
  | .str s, v => v = .string ⟨⟨s⟩⟩
  | .list l, v => ∃ a n c, v = .slice a n c ∧ n = l.length ∧ n ≤ 9223372036854775807 ∧ n ≤ c ∧ (l = [] ∨ ∃ b o sz, a = some ⟨b, o, none⟩ ∧ RepEls I sz l b o)
  | .agg l, v => ∃ cs, v = .agg cs ∧ (∀ u ∈ cs.toList, u.oneCell' = true) ∧ RepVs I l cs.toList
  | .iface t d, v => ∃ x, v = .iface (Z.ty t) x ∧ RepD I d x
  | .func f a b, v => ∃ x y, v = .func (.func (Z.fi f)) x y ∧ RepVs I a x.toList ∧ RepVs I b y.toList
  | .nilI, v => v = .nilIface
  | .nilP, v => v = .pointer none
  | .nilF, v => v = .nilFunc
  | .nilM, v => v = .map none
def RepVs (I : IView) : List PD → List Value → Prop
  | [], vs => vs = []
  | d :: r, vs => ∃ v t, vs = v :: t ∧ RepD I d v ∧ RepVs I r t
def RepEls (I : IView) (sz : Nat) : List PD → Nat → Nat → Prop
  | [], _, _ => True
  | d :: r, b, o => (∃ v, RepD I d v ∧ v.cells.size = sz ∧ ∀ j u, v.cells[j]? = some u → I b (o + j) = some u) ∧ RepEls I sz r b (o + sz)
end

mutual
theorem RepD.mono {I J : IView} (h : I.le J) : ∀ (d : PD) (v : Value), RepD Z I d v → RepD Z J d v
  | .int _ _, v, hv | .bool _, v, hv | .str _, v, hv | .nilI, v, hv | .nilP, v, hv | .nilF, v, hv | .nilM, v, hv => by simpa only [RepD] using hv
  | .list l, v, hv => by
    simp only [RepD] at hv ⊢
    obtain ⟨a, n, c, h1, h2, h3, h4, h5⟩ := hv
    refine ⟨a, n, c, h1, h2, h3, h4, ?_⟩
    rcases h5 with h5 | ⟨b, o, sz, h5, h6⟩
    · exact .inl h5
    · exact .inr ⟨b, o, sz, h5, RepEls.mono h sz l b o h6⟩
  | .agg l, v, hv => by
    simp only [RepD] at hv ⊢
    obtain ⟨cs, h1, h2, h3⟩ := hv
    exact ⟨cs, h1, h2, RepVs.mono h l _ h3⟩
  | .iface t d, v, hv => by
    simp only [RepD] at hv ⊢
    obtain ⟨x, h1, h2⟩ := hv
    exact ⟨x, h1, RepD.mono h d x h2⟩
  | .func f a b, v, hv => by
    simp only [RepD] at hv ⊢
    obtain ⟨x, y, h1, h2, h3⟩ := hv
    exact ⟨x, y, h1, RepVs.mono h a _ h2, RepVs.mono h b _ h3⟩
theorem RepVs.mono {I J : IView} (h : I.le J) : ∀ (l : List PD) (vs : List Value), RepVs Z I l vs → RepVs Z J l vs
  | [], vs, hv => by simpa only [RepVs] using hv
  | d :: r, vs, hv => by
    simp only [RepVs] at hv ⊢
    obtain ⟨v, t, h1, h2, h3⟩ := hv
    exact ⟨v, t, h1, RepD.mono h d v h2, RepVs.mono h r t h3⟩
theorem RepEls.mono {I J : IView} (h : I.le J) (sz : Nat) : ∀ (l : List PD) (b o : Nat), RepEls Z I sz l b o → RepEls Z J sz l b o
  | [], b, o, hv => by simp only [RepEls]
  | d :: r, b, o, hv => by
    simp only [RepEls] at hv ⊢
    obtain ⟨⟨v, h1, h2, h3⟩, h4⟩ := hv
    exact ⟨⟨v, RepD.mono h d v h1, h2, fun j u hu => h _ _ _ (h3 j u hu)⟩, RepEls.mono h sz r b _ h4⟩
end

theorem RepVs.length {I : IView} : ∀ {l : List PD} {vs : List Value}, RepVs Z I l vs → l.length = vs.length
  | [], vs, h => by simp only [RepVs] at h; subst h; rfl
  | d :: r, vs, h => by
    simp only [RepVs] at h
    obtain ⟨v, t, rfl, _, h3⟩ := h
    simp [RepVs.length h3]

theorem RepVs.get {I : IView} : ∀ {l : List PD} {vs : List Value}, RepVs Z I l vs → ∀ (j : Nat) (d : PD), l[j]? = some d → ∃ v, vs[j]? = some v ∧ RepD Z I d v
  | [], vs, h, j, d, hd => by simp at hd
  | e :: r, vs, h, j, d, hd => by
    simp only [RepVs] at h
    obtain ⟨v, t, rfl, h2, h3⟩ := h
    cases j with
    | zero => simp at hd; subst hd; exact ⟨v, by simp, h2⟩
    | succ j => simp at hd; obtain ⟨x, hx, hr⟩ := RepVs.get h3 j d hd; exact ⟨x, by simpa using hx, hr⟩

theorem RepVs.drop {I : IView} : ∀ {l : List PD} {vs : List Value}, RepVs Z I l vs → ∀ (k : Nat), RepVs Z I (l.drop k) (vs.drop k)
  | [], vs, h, k => by simp only [RepVs] at h; subst h; simp [RepVs]
  | e :: r, vs, h, 0 => by simpa using h
  | e :: r, vs, h, k + 1 => by
    simp only [RepVs] at h
    obtain ⟨v, t, rfl, h2, h3⟩ := h
    simpa using RepVs.drop h3 k
theorem RepVs.take {I : IView} : ∀ {l : List PD} {vs : List Value}, RepVs Z I l vs → ∀ (k : Nat), RepVs Z I (l.take k) (vs.take k)
  | [], vs, h, k => by simp only [RepVs] at h; subst h; simp [RepVs]
  | e :: r, vs, h, 0 => by simp [RepVs]
  | e :: r, vs, h, k + 1 => by
    simp only [RepVs] at h
    obtain ⟨v, t, rfl, h2, h3⟩ := h
    simp only [List.take_succ_cons, RepVs]
    exact ⟨v, _, rfl, h2, RepVs.take h3 k⟩

/-- A value that isn't an aggregate is one cell. -/
theorem RepD.cells {I : IView} {d : PD} {v : Value} (h : RepD Z I d v) : RepVs Z I (cellsD d) v.cells.toList ∧ (∀ u ∈ v.cells.toList, u.oneCell' = true) := by
  cases d <;> simp only [RepD] at h
  case agg l => obtain ⟨cs, rfl, h1, h2⟩ := h; exact ⟨h2, h1⟩
  case list l => obtain ⟨a, n, c, rfl, h1⟩ := h; exact ⟨by simp only [cellsD, Value.cells, RepVs]; exact ⟨_, _, rfl, by simp only [RepD]; exact ⟨a, n, c, rfl, h1⟩, rfl⟩, by simp [Value.cells, Value.oneCell']⟩
  case iface t d => obtain ⟨x, rfl, h1⟩ := h; exact ⟨by simp only [cellsD, Value.cells, RepVs]; exact ⟨_, _, rfl, by simp only [RepD]; exact ⟨x, rfl, h1⟩, rfl⟩, by simp [Value.cells, Value.oneCell']⟩
  case func f a b => obtain ⟨x, y, rfl, h1, h2⟩ := h; exact ⟨by simp only [cellsD, Value.cells, RepVs]; exact ⟨_, _, rfl, by simp only [RepD]; exact ⟨x, y, rfl, h1, h2⟩, rfl⟩, by simp [Value.cells, Value.oneCell']⟩
  all_goals (subst h; exact ⟨by simp only [cellsD, Value.cells, RepVs]; exact ⟨_, _, rfl, by simp only [RepD], rfl⟩, by simp [Value.cells, Value.oneCell']⟩)

/-- Cells that lie in the part of memory that nobody writes any more. -/
def RepMem (I : IView) (cells : List PD) (b o : Nat) : Prop := ∃ vs : List Value, RepVs Z I cells vs ∧ (∀ u ∈ vs, u.oneCell' = true) ∧ ∀ j u, vs[j]? = some u → I b (o + j) = some u

theorem RepMem.mono {I J : IView} (h : I.le J) {cells : List PD} {b o : Nat} (hm : RepMem Z I cells b o) : RepMem Z J cells b o := by
  obtain ⟨vs, h1, h2, h3⟩ := hm
  exact ⟨vs, RepVs.mono Z h _ _ h1, h2, fun j u hu => h _ _ _ (h3 j u hu)⟩

theorem RepEls.get {I : IView} {sz : Nat} : ∀ {l : List PD} {b o : Nat}, RepEls Z I sz l b o → ∀ (j : Nat) (d : PD), l[j]? = some d → (cellsD d).length = sz ∧ RepMem Z I (cellsD d) b (o + j * sz)
  | [], b, o, h, j, d, hd => by simp at hd
  | e :: r, b, o, h, j, d, hd => by
    simp only [RepEls] at h
    obtain ⟨⟨v, h1, h2, h3⟩, h4⟩ := h
    cases j with
    | zero =>
      simp at hd; subst hd
      obtain ⟨h5, h6⟩ := RepD.cells Z h1
      refine ⟨by rw [RepVs.length Z h5]; simpa using h2, v.cells.toList, h5, h6, fun j u hu => ?_⟩
      rw [Nat.zero_mul]; exact h3 j u (by simpa using hu)
    | succ j =>
      simp at hd
      obtain ⟨h5, h6⟩ := RepEls.get h4 j d hd
      refine ⟨h5, ?_⟩
      rw [show o + (j + 1) * sz = o + sz + j * sz by rw [Nat.add_mul]; omega]
      exact h6

theorem RepEls.size {I : IView} {sz : Nat} {l : List PD} {b o : Nat} (h : RepEls Z I sz l b o) : ∀ d ∈ l, (cellsD d).length = sz := by
  intro d hd
  obtain ⟨j, hj⟩ := List.mem_iff_getElem?.1 hd
  exact (RepEls.get Z h j d hj).1

theorem RepEls.drop {I : IView} {sz : Nat} : ∀ {l : List PD} {b o : Nat}, RepEls Z I sz l b o → ∀ k, k ≤ l.length → RepEls Z I sz (l.drop k) b (o + k * sz)
  | [], b, o, h, k, hk => by simp only [List.drop_nil, RepEls]
  | e :: r, b, o, h, 0, hk => by simpa using h
  | e :: r, b, o, h, k + 1, hk => by
    simp only [RepEls] at h
    simp only [List.drop_succ_cons]
    rw [show o + (k + 1) * sz = o + sz + k * sz by rw [Nat.add_mul]; omega]
    exact RepEls.drop h.2 k (by simpa using hk)
theorem RepEls.take {I : IView} {sz : Nat} : ∀ {l : List PD} {b o : Nat}, RepEls Z I sz l b o → ∀ k, RepEls Z I sz (l.take k) b o
  | [], b, o, h, k => by simp only [List.take_nil, RepEls]
  | e :: r, b, o, h, 0 => by simp only [List.take_zero, RepEls]
  | e :: r, b, o, h, k + 1 => by
    simp only [RepEls] at h
    simp only [List.take_succ_cons, RepEls]
    exact ⟨h.1, RepEls.take h.2 k⟩
theorem RepEls.append {I : IView} {sz : Nat} : ∀ {l m : List PD} {b o : Nat}, RepEls Z I sz l b o → RepEls Z I sz m b (o + l.length * sz) → RepEls Z I sz (l ++ m) b o
  | [], m, b, o, h, h' => by simpa using h'
  | e :: r, m, b, o, h, h' => by
    simp only [RepEls] at h
    simp only [List.cons_append, RepEls]
    refine ⟨h.1, RepEls.append h.2 ?_⟩
    rw [show o + sz + r.length * sz = o + (e :: r).length * sz by simp [Nat.add_mul]; omega]
    exact h'

/-! ### The evaluator's heap -/
/-- What is known of where the evaluator's objects lie: boxes and maps (blk), rows that are appended to (tb, tcap); how many cells of a block nobody writes any more; which numbers have been used. -/
structure Gh where
  blk : Id → Nat
  tb : Id → Nat
  tcap : Id → Nat
  imm : Nat → Nat
  D : Id → Prop
  lp : Id → Loop

def view (g : Gh) (w : World) : IView := fun b o => if o < g.imm b then w.cell? ⟨b, o, none⟩ else none

structure Conf where
  g : Gh
  w : World
  H : Id → Option AObj

abbrev Conf.I (c : Conf) : IView := view c.g c.w

mutual
def RepR (c : Conf) : RV → Value → Prop
  | .data d, v => RepD Z c.I d v
  | .full l, v => RepD Z c.I (.list l) v ∧ ∃ a n, v = .slice a n n
  | .acc l t, v => RepD Z c.I (.list l) v ∧ c.g.D t ∧ ∀ e sz n, c.H t = some (.tok e sz n) → l.length ≤ n ∧ (n = l.length → v = .slice (some ⟨c.g.tb t, 0, none⟩) n (c.g.tcap t) ∧ ∀ d ∈ l, (cellsD d).length = sz)
  | .ptr id off, v => c.g.D id ∧ v = .pointer (some ⟨c.g.blk id, off, none⟩)
  | .dref cells off, v => ∃ b o, v = .pointer (some ⟨b, o + off, none⟩) ∧ RepMem Z c.I cells b o
  | .agg l, v => ∃ cs, v = .agg cs ∧ (∀ u ∈ cs.toList, u.oneCell' = true) ∧ RepRs c l cs.toList
  | .tup l, v => ∃ vs, v = .tuple vs ∧ RepRs c l vs.toList
  | .func f a b, v => ∃ x y, v = .func (.func (Z.fi f)) x y ∧ RepRs c a x.toList ∧ RepRs c b y.toList
  | .mapr id, v => c.g.D id ∧ v = .map (some (c.g.blk id))
  | .yld r, v => c.g.D r ∧ v = .func (.yield (c.g.blk r)) #[] #[]
  | .nils, v => ∃ k, v = .slice none 0 k
  | .emp, v => ∃ a k, v = .slice (some a) 0 k
  | .sl id off n _, v => c.g.D id ∧ ∃ cap, v = .slice (some ⟨c.g.blk id, off, none⟩) n cap ∧ n ≤ cap ∧ n ≤ 9223372036854775807
def RepRs (c : Conf) : List RV → List Value → Prop
  | [], vs => vs = []
  | d :: r, vs => ∃ v t, vs = v :: t ∧ RepR c d v ∧ RepRs c r t
end

/-- How what is known may go on. -/
structure Evolve (c c' : Conf) : Prop where
  D : ∀ i, c.g.D i → c'.g.D i
  blk : ∀ i, c.g.D i → c'.g.blk i = c.g.blk i
  view : c.I.le c'.I
  tok : ∀ t, c.g.D t → ∀ e sz n', c'.H t = some (.tok e sz n') → ∃ n, c.H t = some (.tok e sz n) ∧ n ≤ n' ∧ (n = n' → c'.g.tb t = c.g.tb t ∧ c'.g.tcap t = c.g.tcap t)
  size : c.w.heap.size ≤ c'.w.heap.size
  lp : ∀ i, c.g.D i → c'.g.lp i = c.g.lp i

theorem Evolve.refl (c : Conf) : Evolve c c := ⟨fun _ h => h, fun _ _ => rfl, IView.le_refl _, fun t _ e sz n h => ⟨n, h, Nat.le_refl _, fun _ => ⟨rfl, rfl⟩⟩, Nat.le_refl _, fun _ _ => rfl⟩
theorem Evolve.trans {a b c : Conf} (h : Evolve a b) (h' : Evolve b c) : Evolve a c := by
  refine ⟨fun i hi => h'.D i (h.D i hi), fun i hi => (h'.blk i (h.D i hi)).trans (h.blk i hi), IView.le_trans h.view h'.view, fun t ht e sz n' hn => ?_, Nat.le_trans h.size h'.size, fun i hi => (h'.lp i (h.D i hi)).trans (h.lp i hi)⟩
  obtain ⟨n1, h1, h2, h3⟩ := h'.tok t (h.D t ht) e sz n' hn
  obtain ⟨n0, h4, h5, h6⟩ := h.tok t ht e sz n1 h1
  refine ⟨n0, h4, Nat.le_trans h5 h2, fun e => ?_⟩
  have e1 : n0 = n1 := by omega
  have e2 : n1 = n' := by omega
  exact ⟨(h3 e2).1.trans (h6 e1).1, (h3 e2).2.trans (h6 e1).2⟩

mutual
theorem RepR.mono {c c' : Conf} (h : Evolve c c') : ∀ (r : RV) (v : Value), RepR Z c r v → RepR Z c' r v
  | .data d, v, hv => by simp only [RepR] at hv ⊢; exact RepD.mono Z h.view d v hv
  | .full l, v, hv => by
    simp only [RepR] at hv ⊢
    exact ⟨RepD.mono Z h.view _ _ hv.1, hv.2⟩
  | .acc l t, v, hv => by
    simp only [RepR] at hv ⊢
    obtain ⟨h1, h2, h3⟩ := hv
    refine ⟨RepD.mono Z h.view _ _ h1, h.D t h2, fun e sz n' hn => ?_⟩
    obtain ⟨n, h4, h5, h6⟩ := h.tok t h2 e sz n' hn
    obtain ⟨h7, h8⟩ := h3 e sz n h4
    refine ⟨Nat.le_trans h7 h5, fun hl => ?_⟩
    have e1 : n = n' := by omega
    obtain ⟨h9, h10⟩ := h8 (by omega)
    obtain ⟨h11, h12⟩ := h6 e1
    rw [h11, h12, ← e1]
    exact ⟨h9, h10⟩
  | .ptr id off, v, hv => by
    simp only [RepR] at hv ⊢
    rw [h.blk id hv.1]
    exact ⟨h.D id hv.1, hv.2⟩
  | .dref cells off, v, hv => by
    simp only [RepR] at hv ⊢
    obtain ⟨b, o, h1, h2⟩ := hv
    exact ⟨b, o, h1, RepMem.mono Z h.view h2⟩
  | .agg l, v, hv => by
    simp only [RepR] at hv ⊢
    obtain ⟨cs, h1, h2, h3⟩ := hv
    exact ⟨cs, h1, h2, RepRs.mono h l _ h3⟩
  | .tup l, v, hv => by
    simp only [RepR] at hv ⊢
    obtain ⟨cs, h1, h3⟩ := hv
    exact ⟨cs, h1, RepRs.mono h l _ h3⟩
  | .func f a b, v, hv => by
    simp only [RepR] at hv ⊢
    obtain ⟨x, y, h1, h2, h3⟩ := hv
    exact ⟨x, y, h1, RepRs.mono h a _ h2, RepRs.mono h b _ h3⟩
  | .mapr id, v, hv => by
    simp only [RepR] at hv ⊢
    rw [h.blk id hv.1]
    exact ⟨h.D id hv.1, hv.2⟩
  | .yld id, v, hv => by
    simp only [RepR] at hv ⊢
    rw [h.blk id hv.1]
    exact ⟨h.D id hv.1, hv.2⟩
  | .nils, v, hv | .emp, v, hv => by simpa only [RepR] using hv
  | .sl id off n sz, v, hv => by
    simp only [RepR] at hv ⊢
    rw [h.blk id hv.1]
    exact ⟨h.D id hv.1, hv.2⟩
theorem RepRs.mono {c c' : Conf} (h : Evolve c c') : ∀ (l : List RV) (vs : List Value), RepRs Z c l vs → RepRs Z c' l vs
  | [], vs, hv => by simpa only [RepRs] using hv
  | d :: r, vs, hv => by
    simp only [RepRs] at hv ⊢
    obtain ⟨v, t, h1, h2, h3⟩ := hv
    exact ⟨v, t, h1, RepR.mono h d v h2, RepRs.mono h r t h3⟩
end

theorem RepRs.length {c : Conf} : ∀ {l : List RV} {vs : List Value}, RepRs Z c l vs → l.length = vs.length
  | [], vs, h => by simp only [RepRs] at h; subst h; rfl
  | d :: r, vs, h => by
    simp only [RepRs] at h
    obtain ⟨v, t, rfl, _, h3⟩ := h
    simp [RepRs.length h3]
theorem RepRs.get {c : Conf} : ∀ {l : List RV} {vs : List Value}, RepRs Z c l vs → ∀ (j : Nat) (d : RV), l[j]? = some d → ∃ v, vs[j]? = some v ∧ RepR Z c d v
  | [], vs, h, j, d, hd => by simp at hd
  | e :: r, vs, h, j, d, hd => by
    simp only [RepRs] at h
    obtain ⟨v, t, rfl, h2, h3⟩ := h
    cases j with
    | zero => simp at hd; subst hd; exact ⟨v, by simp, h2⟩
    | succ j => simp at hd; obtain ⟨x, hx, hr⟩ := RepRs.get h3 j d hd; exact ⟨x, by simpa using hx, hr⟩
theorem RepRs.drop {c : Conf} : ∀ {l : List RV} {vs : List Value}, RepRs Z c l vs → ∀ (k : Nat), RepRs Z c (l.drop k) (vs.drop k)
  | [], vs, h, k => by simp only [RepRs] at h; subst h; simp [RepRs]
  | e :: r, vs, h, 0 => by simpa using h
  | e :: r, vs, h, k + 1 => by
    simp only [RepRs] at h
    obtain ⟨v, t, rfl, h2, h3⟩ := h
    simpa using RepRs.drop h3 k
theorem RepRs.take {c : Conf} : ∀ {l : List RV} {vs : List Value}, RepRs Z c l vs → ∀ (k : Nat), RepRs Z c (l.take k) (vs.take k)
  | [], vs, h, k => by simp only [RepRs] at h; subst h; simp [RepRs]
  | e :: r, vs, h, 0 => by simp [RepRs]
  | e :: r, vs, h, k + 1 => by
    simp only [RepRs] at h
    obtain ⟨v, t, rfl, h2, h3⟩ := h
    simp only [List.take_succ_cons, RepRs]
    exact ⟨v, _, rfl, h2, RepRs.take h3 k⟩
theorem RepRs.append {c : Conf} : ∀ {l m : List RV} {vs us : List Value}, RepRs Z c l vs → RepRs Z c m us → RepRs Z c (l ++ m) (vs ++ us)
  | [], m, vs, us, h, h' => by simp only [RepRs] at h; subst h; simpa using h'
  | d :: r, m, vs, us, h, h' => by
    simp only [RepRs] at h
    obtain ⟨v, t, rfl, h2, h3⟩ := h
    simp only [List.cons_append, RepRs]
    exact ⟨v, _, rfl, h2, RepRs.append h3 h'⟩
theorem RepRs.of_data {c : Conf} : ∀ {l : List PD} {vs : List Value}, RepVs Z c.I l vs → RepRs Z c (l.map .data) vs
  | [], vs, h => by simp only [RepVs] at h; subst h; simp [RepRs]
  | d :: r, vs, h => by
    simp only [RepVs] at h
    obtain ⟨v, t, rfl, h2, h3⟩ := h
    simp only [List.map_cons, RepRs, RepR]
    exact ⟨v, t, rfl, h2, RepRs.of_data h3⟩
theorem RepVs.of_allData {c : Conf} : ∀ {l : List RV} {ds : List PD} {vs : List Value}, allData l = some ds → RepRs Z c l vs → RepVs Z c.I ds vs
  | [], ds, vs, h, h' => by simp only [allData, Option.some.injEq] at h; subst h; simp only [RepRs] at h'; subst h'; simp [RepVs]
  | .data d :: r, ds, vs, h, h' => by
    simp only [allData, Option.bind_eq_some_iff] at h
    obtain ⟨l, h1, h2⟩ := h
    simp only [Option.some.injEq] at h2
    subst h2
    simp only [RepRs, RepR] at h'
    obtain ⟨v, t, rfl, h3, h4⟩ := h'
    simp only [RepVs]
    exact ⟨v, t, rfl, h3, RepVs.of_allData h1 h4⟩
  | .full _ :: r, ds, vs, h, h' | .acc _ _ :: r, ds, vs, h, h' | .ptr _ _ :: r, ds, vs, h, h' | .dref _ _ :: r, ds, vs, h, h' | .agg _ :: r, ds, vs, h, h' | .tup _ :: r, ds, vs, h, h' | .func _ _ _ :: r, ds, vs, h, h' | .mapr _ :: r, ds, vs, h, h' | .yld _ :: r, ds, vs, h, h' | .nils :: r, ds, vs, h, h' | .emp :: r, ds, vs, h, h' | .sl .. :: r, ds, vs, h, h' => by simp [allData] at h

theorem RepR.mkAgg {c : Conf} {l : List RV} {cs : Array Value} (h1 : ∀ u ∈ cs.toList, u.oneCell' = true) (h : RepRs Z c l cs.toList) : RepR Z c (mkAgg l) (.agg cs) := by
  unfold YtkcbomohgbafoaaDoor.mkAgg
  split
  · rename_i ds hd
    simp only [RepR, RepD]
    exact ⟨cs, rfl, h1, RepVs.of_allData Z hd h⟩
  · simp only [RepR]
    exact ⟨cs, rfl, h1, h⟩

mutual
theorem RepD.of_toD {c : Conf} : ∀ {r : RV} {d : PD} {v : Value}, toD r = some d → RepR Z c r v → RepD Z c.I d v
  | .data d, d', v, h, h' => by simp only [toD, Option.some.injEq] at h; subst h; simpa only [RepR] using h'
  | .full l, d', v, h, h' => by simp only [toD, Option.some.injEq] at h; subst h; simp only [RepR] at h'; exact h'.1
  | .acc l t, d', v, h, h' => by simp only [toD, Option.some.injEq] at h; subst h; simp only [RepR] at h'; exact h'.1
  | .agg l, d', v, h, h' => by
    simp only [toD, Option.bind_eq_some_iff, Option.some.injEq] at h
    obtain ⟨ds, h1, rfl⟩ := h
    simp only [RepR] at h'
    obtain ⟨cs, rfl, h2, h3⟩ := h'
    simp only [RepD]
    exact ⟨cs, rfl, h2, RepVs.of_toDs h1 h3⟩
  | .func f a b, d', v, h, h' => by
    simp only [toD, Option.bind_eq_some_iff, Option.some.injEq] at h
    obtain ⟨as, h1, bs, h2, rfl⟩ := h
    simp only [RepR] at h'
    obtain ⟨x, y, rfl, h3, h4⟩ := h'
    simp only [RepD]
    exact ⟨x, y, rfl, RepVs.of_toDs h1 h3, RepVs.of_toDs h2 h4⟩
  | .nils, d', v, h, h' => by
    simp only [toD, Option.some.injEq] at h; subst h; simp only [RepR] at h'; obtain ⟨k, rfl⟩ := h'
    simp only [RepD]; exact ⟨_, _, _, rfl, by simp, by omega, by omega, by simp⟩
  | .emp, d', v, h, h' => by
    simp only [toD, Option.some.injEq] at h; subst h; simp only [RepR] at h'; obtain ⟨b, k, rfl⟩ := h'
    simp only [RepD]; exact ⟨_, _, _, rfl, by simp, by omega, by omega, by simp⟩
  | .ptr _ _, d', v, h, h' | .dref _ _, d', v, h, h' | .tup _, d', v, h, h' | .mapr _, d', v, h, h' | .yld _, d', v, h, h' | .sl .., d', v, h, h' => by simp [toD] at h
theorem RepVs.of_toDs {c : Conf} : ∀ {l : List RV} {ds : List PD} {vs : List Value}, toDs l = some ds → RepRs Z c l vs → RepVs Z c.I ds vs
  | [], ds, vs, h, h' => by simp only [toDs, Option.some.injEq] at h; subst h; simp only [RepRs] at h'; subst h'; simp [RepVs]
  | r :: l, ds, vs, h, h' => by
    simp only [toDs, Option.bind_eq_some_iff, Option.some.injEq] at h
    obtain ⟨d, h1, ds', h2, rfl⟩ := h
    simp only [RepRs] at h'
    obtain ⟨v, t, rfl, h3, h4⟩ := h'
    simp only [RepVs]
    exact ⟨v, t, rfl, RepD.of_toD h1 h3, RepVs.of_toDs h2 h4⟩
end

/-- A value's cells. -/
theorem RepR.cells {c : Conf} {r : RV} {v : Value} (h : RepR Z c r v) (ht : ∀ l, r ≠ .tup l) : RepRs Z c (cellsR r) v.cells.toList ∧ (∀ u ∈ v.cells.toList, u.oneCell' = true) := by
  cases r
  case data d => simp only [RepR] at h; exact ⟨RepRs.of_data Z (RepD.cells Z h).1, (RepD.cells Z h).2⟩
  case agg l => simp only [RepR] at h; obtain ⟨cs, rfl, h1, h2⟩ := h; exact ⟨h2, h1⟩
  case tup l => exact absurd rfl (ht l)
  case full l =>
    have h' := h; simp only [RepR] at h; obtain ⟨_, a, n, rfl⟩ := h
    exact ⟨by simp only [cellsR, Value.cells, RepRs]; exact ⟨_, _, rfl, h', rfl⟩, by simp [Value.cells, Value.oneCell']⟩
  case acc l t =>
    have h' := h; simp only [RepR, RepD] at h; obtain ⟨⟨a, n, c', rfl, _⟩, _⟩ := h
    exact ⟨by simp only [cellsR, Value.cells, RepRs]; exact ⟨_, _, rfl, h', rfl⟩, by simp [Value.cells, Value.oneCell']⟩
  case ptr i o => have h' := h; simp only [RepR] at h; obtain ⟨_, rfl⟩ := h; exact ⟨by simp only [cellsR, Value.cells, RepRs]; exact ⟨_, _, rfl, h', rfl⟩, by simp [Value.cells, Value.oneCell']⟩
  case dref cs o => have h' := h; simp only [RepR] at h; obtain ⟨_, _, rfl, _⟩ := h; exact ⟨by simp only [cellsR, Value.cells, RepRs]; exact ⟨_, _, rfl, h', rfl⟩, by simp [Value.cells, Value.oneCell']⟩
  case func f a b => have h' := h; simp only [RepR] at h; obtain ⟨_, _, rfl, _⟩ := h; exact ⟨by simp only [cellsR, Value.cells, RepRs]; exact ⟨_, _, rfl, h', rfl⟩, by simp [Value.cells, Value.oneCell']⟩
  case nils => have h' := h; simp only [RepR] at h; obtain ⟨_, rfl⟩ := h; exact ⟨by simp only [cellsR, Value.cells, RepRs]; exact ⟨_, _, rfl, h', rfl⟩, by simp [Value.cells, Value.oneCell']⟩
  case emp => have h' := h; simp only [RepR] at h; obtain ⟨_, _, rfl⟩ := h; exact ⟨by simp only [cellsR, Value.cells, RepRs]; exact ⟨_, _, rfl, h', rfl⟩, by simp [Value.cells, Value.oneCell']⟩
  case sl i o n sz => have h' := h; simp only [RepR] at h; obtain ⟨_, _, rfl, _⟩ := h; exact ⟨by simp only [cellsR, Value.cells, RepRs]; exact ⟨_, _, rfl, h', rfl⟩, by simp [Value.cells, Value.oneCell']⟩
  case yld i => have h' := h; simp only [RepR] at h; obtain ⟨_, rfl⟩ := h; exact ⟨by simp only [cellsR, Value.cells, RepRs]; exact ⟨_, _, rfl, h', rfl⟩, by simp [Value.cells, Value.oneCell']⟩
  case mapr i => have h' := h; simp only [RepR] at h; obtain ⟨_, rfl⟩ := h; exact ⟨by simp only [cellsR, Value.cells, RepRs]; exact ⟨_, _, rfl, h', rfl⟩, by simp [Value.cells, Value.oneCell']⟩

end
end Go.Proofs.YtkcbomohgbafoaaDoor
/- The evaluator's objects in the machine's memory; steps; operands. -/
set_option linter.unusedVariables false
set_option linter.unusedSimpArgs false
namespace Go.Proofs.YtkcbomohgbafoaaDoor
open Go

def objBlk (g : Gh) (i : Id) : AObj → Nat
  | .tok _ _ _ => g.tb i
  | _ => g.blk i

section
variable (Z : Seat)

/-- A map with string keys: what is found in it. -/
def MapR (I : IView) (l : List (List UInt8 × PD)) (es : List MapEntry) : Prop :=
  ∀ k : List UInt8, match look1 k l with
    | some d => ∃ i v, Instr.findNow .string (.string ⟨⟨k⟩⟩) es 0 = some (some (i, v)) ∧ RepD Z I d v ∧ v.oneCell' = true
    | none => Instr.findNow .string (.string ⟨⟨k⟩⟩) es 0 = some none

def codeOf : Ex → Code
  | .exit i => .exit i
  | .goto l => .goto l
  | .ret => .ret
  | _ => .skip
def stOf : LoopSt → LoopState
  | .ready => .ready
  | .busy => .busy
  | .done _ => .done
def pendOf : LoopSt → Option Code
  | .done x => some (codeOf x)
  | _ => none

def ObjR (c : Conf) (i : Id) : AObj → Prop
  | .box cells => ∃ cs T fr, c.w.heap[c.g.blk i]? = some (.cells cs T fr) ∧ RepRs Z c cells (cs.toList.take cells.length) ∧ (∀ u ∈ cs.toList, u.oneCell' = true) ∧ c.g.imm (c.g.blk i) = 0 ∧ (fr = (0, 0) ∨ cs.size ≤ fr.1)
  | .tok e sz n => ∃ cur, c.w.heap[c.g.tb i]? = some (.cells cur (Z.ty e) (0, 0)) ∧ 0 < sz ∧ n ≤ c.g.tcap i ∧ c.g.tcap i ≤ 9223372036854775807 ∧ cur.size = c.g.tcap i * sz ∧ c.g.imm (c.g.tb i) = n * sz
  | .mp l => ∃ es clock, c.w.heap[c.g.blk i]? = some (.map es clock) ∧ MapR Z c.I l es.toList ∧ c.g.imm (c.g.blk i) = 0
  | .bld _ => False
  | .lrec st => c.w.heap[c.g.blk i]? = some (.loop { c.g.lp i with state := stOf st, pending := pendOf st }) ∧ c.g.imm (c.g.blk i) = 0
  | .dblk => c.w.heap[c.g.blk i]? = some (.deferred (some [])) ∧ c.g.imm (c.g.blk i) = 0

structure HeapOK (c : Conf) : Prop where
  obj : ∀ i o, c.H i = some o → c.g.D i ∧ ObjR Z c i o
  one : ∀ i j o o', c.H i = some o → c.H j = some o' → objBlk c.g i o = objBlk c.g j o' → i = j

theorem MapR.mono {I J : IView} (h : I.le J) {l : List (List UInt8 × PD)} {es : List MapEntry} (hm : MapR Z I l es) : MapR Z J l es := by
  intro k
  have := hm k
  split at this
  · rename_i d hd
    obtain ⟨i, v, h1, h2, h3⟩ := this
    exact ⟨i, v, h1, RepD.mono Z h d v h2, h3⟩
  · exact this

/-- An object that nothing has turned. -/
theorem ObjR.kept {c c' : Conf} (h : Evolve c c') {i : Id} {o : AObj} (ho : ObjR Z c i o) (hD : c.g.D i) (htok : ∀ e sz n, o = .tok e sz n → c'.g.tb i = c.g.tb i ∧ c'.g.tcap i = c.g.tcap i)
    (hb : c'.w.heap[objBlk c.g i o]? = c.w.heap[objBlk c.g i o]?) (him : c'.g.imm (objBlk c.g i o) = c.g.imm (objBlk c.g i o)) : ObjR Z c' i o := by
  cases o with
  | box cells =>
    obtain ⟨cs, T, fr, h1, h2, h3, h4, h5⟩ := ho
    simp only [objBlk] at hb him
    refine ⟨cs, T, fr, ?_, RepRs.mono Z h _ _ h2, h3, ?_, h5⟩
    · rw [h.blk i hD, hb]; exact h1
    · rw [h.blk i hD, him]; exact h4
  | tok e sz n =>
    obtain ⟨cur, h1, h2, h3, h4, h5, h6⟩ := ho
    obtain ⟨e1, e2⟩ := htok e sz n rfl
    simp only [objBlk] at hb him
    refine ⟨cur, ?_, h2, ?_, ?_, ?_, ?_⟩
    · rw [e1, hb]; exact h1
    · rw [e2]; exact h3
    · rw [e2]; exact h4
    · rw [e2]; exact h5
    · rw [e1, him]; exact h6
  | mp l =>
    obtain ⟨es, clock, h1, h2, h3⟩ := ho
    simp only [objBlk] at hb him
    refine ⟨es, clock, ?_, MapR.mono Z h.view h2, ?_⟩
    · rw [h.blk i hD, hb]; exact h1
    · rw [h.blk i hD, him]; exact h3
  | bld s => exact ho.elim
  | lrec st =>
    obtain ⟨h1, h2⟩ := ho
    simp only [objBlk] at hb him
    refine ⟨?_, ?_⟩
    · rw [h.blk i hD, h.lp i hD, hb]; exact h1
    · rw [h.blk i hD, him]; exact h2
  | dblk =>
    obtain ⟨h1, h2⟩ := ho
    simp only [objBlk] at hb him
    refine ⟨?_, ?_⟩
    · rw [h.blk i hD, hb]; exact h1
    · rw [h.blk i hD, him]; exact h2

structure Step (c c' : Conf) : Prop where
  ev : Evolve c c'
  frame : ∀ b, b < c.w.heap.size → (∀ i o, c.H i = some o → objBlk c.g i o ≠ b) → c'.w.heap[b]? = c.w.heap[b]? ∧ c'.g.imm b = c.g.imm b
  own : ∀ i o', c'.H i = some o' → c.w.heap.size ≤ objBlk c'.g i o' ∨ ∃ j o, c.H j = some o ∧ objBlk c.g j o = objBlk c'.g i o'
  os : c'.w.os = c.w.os
  tape : c'.w.tape = c.w.tape
  output : c'.w.output = c.w.output

theorem Step.refl (c : Conf) : Step c c := ⟨Evolve.refl c, fun _ _ _ => ⟨rfl, rfl⟩, fun i o h => .inr ⟨i, o, h, rfl⟩, rfl, rfl, rfl⟩
theorem Step.trans {a b c : Conf} (h : Step a b) (h' : Step b c) : Step a c := by
  refine ⟨h.ev.trans h'.ev, fun k hk hne => ?_, fun i o ho => ?_, h'.os.trans h.os, h'.tape.trans h.tape, h'.output.trans h.output⟩
  · obtain ⟨h1, h2⟩ := h.frame k hk hne
    obtain ⟨h3, h4⟩ := h'.frame k (Nat.lt_of_lt_of_le hk h.ev.size) (fun i o ho e => by
      rcases h.own i o ho with h5 | ⟨j, o', h5, h6⟩
      · omega
      · exact hne j o' h5 (h6.trans e))
    exact ⟨h3.trans h1, h4.trans h2⟩
  · rcases h'.own i o ho with h1 | ⟨j, o', h1, h2⟩
    · exact .inl (Nat.le_trans h.ev.size h1)
    · rcases h.own j o' h1 with h3 | ⟨k, o'', h3, h4⟩
      · exact .inl (by omega)
      · exact .inr ⟨k, o'', h3, h4.trans h2⟩

/-! ### Operands -/
def EnvOK (c : Conf) (env : Nat → Option RV) (tmps : Array Value) : Prop := ∀ r v, env r = some v → RepR Z c v (tmps.getD r undef)

theorem EnvOK.mono {c c' : Conf} (h : Evolve c c') {env : Nat → Option RV} {tmps : Array Value} (he : EnvOK Z c env tmps) : EnvOK Z c' env tmps :=
  fun r v hr => RepR.mono Z h v _ (he r v hr)

theorem EnvOK.set {c : Conf} {env : Nat → Option RV} {tmps : Array Value} (he : EnvOK Z c env tmps) {d : Nat} (hd : d < tmps.size) {v : RV} {x : Value} (hv : RepR Z c v x) : EnvOK Z c (upd env d v) (tmps.setIfInBounds d x) := by
  intro r u hr
  unfold upd at hr
  split at hr
  · rename_i e
    subst e
    simp only [Option.some.injEq] at hr
    subst hr
    simpa [Array.getD_eq_getD_getElem?, hd] using hv
  · rename_i e
    have := he r u hr
    rw [Array.getD_eq_getD_getElem?, Array.getElem?_setIfInBounds_ne (by omega), ← Array.getD_eq_getD_getElem?]
    exact this

theorem EnvOK.keep {c : Conf} {env : Nat → Option RV} {tmps : Array Value} (he : EnvOK Z c env tmps) : ∀ l : List Nat, EnvOK Z c (keep env l) tmps
  | [], r, v, hr => by simp [YtkcbomohgbafoaaDoor.keep] at hr
  | x :: xs, r, v, hr => by
    cases hx : env x with
    | none => simp only [YtkcbomohgbafoaaDoor.keep, hx] at hr; exact EnvOK.keep he xs r v hr
    | some u =>
      simp only [YtkcbomohgbafoaaDoor.keep, hx] at hr
      unfold upd at hr
      split at hr
      · rename_i e; subst e; simp only [Option.some.injEq] at hr; subst hr; exact he _ _ hx
      · exact EnvOK.keep he xs r v hr

theorem RepR.const {c : Conf} {v : Value} {r : RV} (h : cvConst v = some r) : RepR Z c r v ∧ v.oneCell' = true ∧ ∀ l, r ≠ .tup l := by
  unfold cvConst at h
  split at h <;> simp only [Option.some.injEq, reduceCtorEq] at h <;> subst h <;> refine ⟨?_, rfl, fun l => by simp⟩ <;> simp only [RepR, RepD]
  exact ⟨⟨none, 0, 0, rfl, rfl, by omega, Nat.le_refl _, .inl trivial⟩, none, 0, rfl⟩
theorem RepRs.const {c : Conf} : ∀ {vs : List Value} {rs : List RV}, cvCells vs = some rs → RepRs Z c rs vs ∧ (∀ u ∈ vs, u.oneCell' = true)
  | [], rs, h => by simp only [cvCells, Option.some.injEq] at h; subst h; simp [RepRs]
  | v :: t, rs, h => by
    simp only [cvCells, Option.bind_eq_some_iff, Option.some.injEq] at h
    obtain ⟨x, h1, l, h2, rfl⟩ := h
    obtain ⟨h3, h4, _⟩ := RepR.const Z (c := c) h1
    obtain ⟨h5, h6⟩ := RepRs.const (c := c) h2
    simp only [RepRs]
    refine ⟨⟨v, t, rfl, h3, h5⟩, ?_⟩
    simpa using ⟨h4, h6⟩

theorem RepR.arg {c : Conf} {env : Nat → Option RV} {a : Act} (he : EnvOK Z c env a.tmps) {x : Operand} {ix : IArg} {v : RV} (hc : cArg Z x = some ix) (hv : evArg env ix = some v) : RepR Z c v (a.eval x) := by
  unfold cArg at hc
  split at hc
  · simp only [Option.some.injEq] at hc; subst hc; exact he _ _ hv
  · simp only [Option.map_eq_some_iff] at hc
    obtain ⟨l, h1, rfl⟩ := hc
    simp only [evArg, Option.some.injEq] at hv
    subst hv
    obtain ⟨h2, h3⟩ := RepRs.const Z (c := c) h1
    exact RepR.mkAgg Z h3 h2
  · simp only [Option.map_eq_some_iff] at hc
    obtain ⟨l, h1, rfl⟩ := hc
    simp only [evArg, Option.some.injEq] at hv
    subst hv
    exact (RepR.const Z h1).1
  · simp only [Option.map_eq_some_iff] at hc
    obtain ⟨k, h1, rfl⟩ := hc
    simp only [evArg, Option.some.injEq] at hv
    subst hv
    unfold cFn at h1
    split at h1
    · rename_i e
      simp only [Option.some.injEq] at h1
      subst h1
      simp only [RepR, Act.eval, RepRs]
      exact ⟨#[], #[], by rw [e], rfl, rfl⟩
    · simp at h1
  · simp at hc

theorem RepRs.args {c : Conf} {env : Nat → Option RV} {a : Act} (he : EnvOK Z c env a.tmps) : ∀ {xs : List Operand} {is : List IArg} {vs : List RV}, cArgs Z xs = some is → evArgs env is = some vs → RepRs Z c vs (xs.map a.eval)
  | [], is, vs, hc, hv => by simp only [cArgs, Option.some.injEq] at hc; subst hc; simp only [evArgs, Option.some.injEq] at hv; subst hv; simp [RepRs]
  | x :: xs, is, vs, hc, hv => by
    simp only [cArgs, Option.bind_eq_some_iff, Option.some.injEq] at hc
    obtain ⟨ix, h1, l, h2, rfl⟩ := hc
    simp only [evArgs, Option.bind_eq_some_iff, Option.some.injEq] at hv
    obtain ⟨v, h3, l', h4, rfl⟩ := hv
    simp only [List.map_cons, RepRs]
    exact ⟨_, _, rfl, RepR.arg Z he h1 h3, RepRs.args he h2 h4⟩

end
end Go.Proofs.YtkcbomohgbafoaaDoor
/- New blocks, stores into boxes: the steps of the evaluator's heap. -/
set_option linter.unusedVariables false
set_option linter.unusedSimpArgs false
namespace Go.Proofs.YtkcbomohgbafoaaDoor
open Go

section
variable (Z : Seat)

theorem view_some {g : Gh} {w : World} {b o : Nat} {v : Value} (h : view g w b o = some v) : o < g.imm b ∧ w.cell? ⟨b, o, none⟩ = some v := by
  unfold view at h
  split at h
  · exact ⟨‹_›, h⟩
  · simp at h

theorem view_lt {g : Gh} {w : World} {b o : Nat} {v : Value} (h : view g w b o = some v) : b < w.heap.size := World.block_lt_of_cell? w _ (view_some h).2

theorem heap_alloc_lt (w : World) (o : Obj) {b : Nat} (h : b < w.heap.size) : (w.alloc o).heap[b]? = w.heap[b]? := by
  simp only [World.alloc, Array.getElem?_push]
  rw [if_neg (by omega)]
theorem heap_alloc_new' (w : World) (o : Obj) : (w.alloc o).heap[w.heap.size]? = some o := by
  show (w.heap.push o)[w.heap.size]? = some o
  simp

theorem cell_of_heap {w w' : World} {b : Nat} (h : w'.heap[b]? = w.heap[b]?) (o : Nat) : w'.cell? ⟨b, o, none⟩ = w.cell? ⟨b, o, none⟩ := by
  simp only [World.cell?, h]

theorem objBlk_lt {c : Conf} (hH : HeapOK Z c) {i : Id} {o : AObj} (h : c.H i = some o) : objBlk c.g i o < c.w.heap.size := by
  obtain ⟨_, ho⟩ := hH.obj i o h
  cases o with
  | box cells => obtain ⟨cs, T, fr, h1, _⟩ := ho; exact (Array.getElem?_eq_some_iff.1 h1).1
  | tok e sz n => obtain ⟨cur, h1, _⟩ := ho; exact (Array.getElem?_eq_some_iff.1 h1).1
  | mp l => obtain ⟨es, cl, h1, _⟩ := ho; exact (Array.getElem?_eq_some_iff.1 h1).1
  | bld s => exact ho.elim
  | lrec st => exact (Array.getElem?_eq_some_iff.1 ho.1).1
  | dblk => exact (Array.getElem?_eq_some_iff.1 ho.1).1

/-- Another world in which every block of ours, and all that nobody writes any more, is as it was. -/
theorem Step.world {c : Conf} (hH : HeapOK Z c) {w' : World} {imm' : Nat → Nat} (hsz : c.w.heap.size ≤ w'.heap.size) (hb : ∀ b, b < c.w.heap.size → w'.heap[b]? = c.w.heap[b]?) (him : ∀ b, b < c.w.heap.size → imm' b = c.g.imm b)
    (h1 : w'.os = c.w.os) (h2 : w'.tape = c.w.tape) (h3 : w'.output = c.w.output) :
    Step c ⟨{ c.g with imm := imm' }, w', c.H⟩ ∧ HeapOK Z ⟨{ c.g with imm := imm' }, w', c.H⟩ := by
  have hv : c.I.le (view { c.g with imm := imm' } w') := by
    intro b o v hv
    have hlt := view_lt hv
    obtain ⟨h4, h5⟩ := view_some hv
    unfold view
    simp only
    rw [if_pos (by rw [him b hlt]; exact h4), cell_of_heap (hb b hlt)]
    exact h5
  have ev : Evolve c ⟨{ c.g with imm := imm' }, w', c.H⟩ := ⟨fun _ h => h, fun _ _ => rfl, hv, fun t _ e sz n h => ⟨n, h, Nat.le_refl _, fun _ => ⟨rfl, rfl⟩⟩, hsz, fun _ _ => rfl⟩
  refine ⟨⟨ev, fun b hlt _ => ⟨hb b hlt, him b hlt⟩, fun i o h => .inr ⟨i, o, h, by cases o <;> rfl⟩, h1, h2, h3⟩, fun i o h => ?_, fun i j o o' h h' e => hH.one i j o o' h h' (by cases o <;> cases o' <;> exact e)⟩
  obtain ⟨hD, ho⟩ := hH.obj i o h
  have hlt := objBlk_lt Z hH h
  exact ⟨hD, ObjR.kept Z ev ho hD (fun _ _ _ _ => ⟨rfl, rfl⟩) (hb _ hlt) (him _ hlt)⟩

/-- A new block of the evaluator's own: a box or a map. -/
theorem Step.new {c : Conf} (hH : HeapOK Z c) {id : Id} (hid : ¬ c.g.D id) (L : Loop) (ob : Obj) (o : AObj) (hnt : ∀ e sz n, o ≠ .tok e sz n)
    (ho : ∀ c' : Conf, Evolve c c' → c'.w.heap[c'.g.blk id]? = some ob → c'.g.imm (c'.g.blk id) = 0 → c'.g.lp id = L → ObjR Z c' id o) :
    let c' : Conf := ⟨{ c.g with blk := fun i => if i = id then c.w.heap.size else c.g.blk i, imm := fun b => if b = c.w.heap.size then 0 else c.g.imm b, D := fun i => c.g.D i ∨ i = id, lp := fun i => if i = id then L else c.g.lp i }, c.w.alloc ob, upd c.H id o⟩
    Step c c' ∧ HeapOK Z c' := by
  intro c'
  have hnone : c.H id = none := by
    cases h : c.H id with
    | none => rfl
    | some o' => exact absurd (hH.obj id o' h).1 hid
  have hv : c.I.le c'.I := by
    intro b o v hv
    have hlt := view_lt hv
    obtain ⟨h4, h5⟩ := view_some hv
    simp only [c', view]
    rw [if_pos (by rw [if_neg (by omega)]; exact h4), cell_of_heap (heap_alloc_lt c.w ob hlt)]
    exact h5
  have ev : Evolve c c' := by
    refine ⟨fun i h => .inl h, fun i h => ?_, hv, fun t ht e sz n h => ?_, by simp [c'], fun i h => ?_⟩
    · simp only [c']
      rw [if_neg (by rintro rfl; exact hid h)]
    · simp only [c', upd] at h
      rw [if_neg (by rintro rfl; exact hid ht)] at h
      exact ⟨n, h, Nat.le_refl _, fun _ => ⟨rfl, rfl⟩⟩
    · simp only [c']
      rw [if_neg (by rintro rfl; exact hid h)]
  have hob : ∀ i o', c.H i = some o' → objBlk c'.g i o' = objBlk c.g i o' := by
    intro i o' h
    have hD := (hH.obj i o' h).1
    cases o' <;> simp only [objBlk, c'] <;> first | rfl | (rw [if_neg (by rintro rfl; exact hid hD)])
  have hnew : objBlk c'.g id o = c.w.heap.size := by
    cases o with
    | tok e sz n => exact absurd rfl (hnt e sz n)
    | _ => simp [objBlk, c']
  refine ⟨⟨ev, fun b hb hne => ⟨heap_alloc_lt _ _ hb, by simp only [c']; rw [if_neg (by omega)]⟩, fun i o' h => ?_, rfl, rfl, rfl⟩, fun i o' h => ?_, fun i j o1 o2 h h' e => ?_⟩
  · simp only [c', upd] at h
    split at h
    · rename_i e; subst e
      simp only [Option.some.injEq] at h; subst h
      exact .inl (by rw [hnew]; exact Nat.le_refl _)
    · exact .inr ⟨i, o', h, (hob i o' h).symm⟩
  · simp only [c', upd] at h
    split at h
    · rename_i e; subst e
      simp only [Option.some.injEq] at h; subst h
      refine ⟨.inr rfl, ho c' ev ?_ ?_ ?_⟩
      · simp only [c', if_true]; exact heap_alloc_new' _ _
      · simp [c']
      · simp [c']
    · rename_i e
      obtain ⟨hD, hr⟩ := hH.obj i o' h
      have hl := objBlk_lt Z hH h
      exact ⟨.inl hD, ObjR.kept Z ev hr hD (fun _ _ _ _ => ⟨rfl, rfl⟩) (heap_alloc_lt _ _ hl) (by simp only [c']; rw [if_neg (by omega)])⟩
  · simp only [c', upd] at h h'
    split at h <;> split at h'
    · rename_i e1 e2; rw [e1, e2]
    · rename_i e1 e2
      subst e1
      simp only [Option.some.injEq] at h; subst h
      rw [hnew, hob j o2 h'] at e
      have := objBlk_lt Z hH h'
      omega
    · rename_i e1 e2
      subst e2
      simp only [Option.some.injEq] at h'; subst h'
      rw [hnew, hob i o1 h] at e
      have := objBlk_lt Z hH h
      omega
    · rw [hob i o1 h, hob j o2 h'] at e
      exact hH.one i j o1 o2 h h' e

/-- What a change inside one block of the evaluator's own leaves (a box's cells, a map's entries). -/
theorem Step.inside {c : Conf} (hH : HeapOK Z c) {id : Id} {o o' : AObj} (hid : c.H id = some o) (hnt : ∀ e sz n, o ≠ .tok e sz n) (hnt' : ∀ e sz n, o' ≠ .tok e sz n) (him : c.g.imm (c.g.blk id) = 0) {w' : World} (hsz : w'.heap.size = c.w.heap.size)
    (hb : ∀ b, b ≠ c.g.blk id → w'.heap[b]? = c.w.heap[b]?) (h1 : w'.os = c.w.os) (h2 : w'.tape = c.w.tape) (h3 : w'.output = c.w.output)
    (ho : Evolve c ⟨c.g, w', upd c.H id o'⟩ → ObjR Z ⟨c.g, w', upd c.H id o'⟩ id o') :
    Step c ⟨c.g, w', upd c.H id o'⟩ ∧ HeapOK Z ⟨c.g, w', upd c.H id o'⟩ := by
  have hblk : ∀ (q : AObj), (∀ e sz n, q ≠ .tok e sz n) → objBlk c.g id q = c.g.blk id := by
    intro q hq
    cases q with
    | tok e sz n => exact absurd rfl (hq e sz n)
    | _ => rfl
  have hv : c.I.le (view c.g w') := by
    intro b k v hv
    obtain ⟨h4, h5⟩ := view_some hv
    unfold view
    rw [if_pos h4, cell_of_heap (hb b (by rintro rfl; rw [him] at h4; omega))]
    exact h5
  have ev : Evolve c ⟨c.g, w', upd c.H id o'⟩ := by
    refine ⟨fun _ h => h, fun _ _ => rfl, hv, fun t ht e sz n h => ?_, by simp only; omega, fun _ _ => rfl⟩
    simp only [upd] at h
    split at h
    · simp only [Option.some.injEq] at h; exact absurd h (hnt' e sz n)
    · exact ⟨n, h, Nat.le_refl _, fun _ => ⟨rfl, rfl⟩⟩
  refine ⟨⟨ev, fun b hlt hne => ⟨hb b (fun e => hne id o hid (by rw [hblk o hnt, e])), rfl⟩, fun i q h => ?_, h1, h2, h3⟩, fun i q h => ?_, fun i j o1 o2 h h' e => ?_⟩
  · simp only [upd] at h
    split at h
    · rename_i e; subst e
      simp only [Option.some.injEq] at h; subst h
      exact .inr ⟨i, o, hid, by rw [hblk o hnt, hblk o' hnt']⟩
    · exact .inr ⟨i, q, h, rfl⟩
  · simp only [upd] at h
    split at h
    · rename_i e; subst e
      simp only [Option.some.injEq] at h; subst h
      exact ⟨(hH.obj i o hid).1, ho ev⟩
    · rename_i e
      obtain ⟨hD, hr⟩ := hH.obj i q h
      have hne : objBlk c.g i q ≠ c.g.blk id := fun e' => e (hH.one i id q o h hid (by rw [hblk o hnt]; exact e'))
      exact ⟨hD, ObjR.kept Z ev hr hD (fun _ _ _ _ => ⟨rfl, rfl⟩) (hb _ hne) rfl⟩
  · simp only [upd] at h h'
    split at h <;> split at h'
    · rename_i e1 e2; rw [e1, e2]
    · rename_i e1 e2
      subst e1
      simp only [Option.some.injEq] at h; subst h
      exact hH.one i j o o2 hid h' (by rw [hblk o hnt, ← hblk o' hnt']; exact e)
    · rename_i e1 e2
      subst e2
      simp only [Option.some.injEq] at h'; subst h'
      exact hH.one i j o1 o h hid (by rw [hblk o hnt, ← hblk o' hnt']; exact e)
    · exact hH.one i j o1 o2 h h' e

end
end Go.Proofs.YtkcbomohgbafoaaDoor
