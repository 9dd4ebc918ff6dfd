/- The interpreter E: kinds, abstract values, the store, annotated operations and code, and how they are carried out. Definitions and small laws alone; no condition. -/
import Derived.Calls
import Derived.Tactics
namespace Go.Proofs.Ytnbfkndicldppaa.Core
open Go

/-- Codes of kinds. -/
inductive Kd where
  | int (k : IntKind) | bool | str | slice (e : Kd) | pair (a b : Kd) | own (t : TypeId) (e : Kd) | ref (K : Kd) | fun (f : Nat) | clo (f : Nat) (K : Kd)
  deriving DecidableEq

@[reducible] def Kd.T : Kd → Type
  | .int _ => Int
  | .bool => Bool
  | .str => ByteArray
  | .slice e => List e.T
  | .pair a b => a.T × b.T
  | .own _ e => List e.T
  | .ref K => K.T
  | .fun _ => Unit
  | .clo _ K => K.T

/-- How many cells. -/
def Kd.sz : Kd → Nat
  | .pair a b => a.sz + b.sz
  | _ => 1

/-- A zero of each kind. -/
def Kd.zero : (K : Kd) → K.T
  | .int _ => (0 : Int)
  | .bool => false
  | .str => ByteArray.empty
  | .slice e => ([] : List e.T)
  | .pair a b => (a.zero, b.zero)
  | .own _ e => ([] : List e.T)
  | .ref K => K.zero
  | .fun _ => ()
  | .clo _ K => K.zero

/-- Abstract values. -/
inductive AV where
  | undef
  | void
  | int (k : IntKind) (n : Int)
  | bool (b : Bool)
  | str (s : ByteArray)
  | nil
  | lst (K : Kd) (xs : List K.T)
  | new (t : TypeId) (K : Kd) (xs : List K.T)
  | ref (cs : List AV)
  | row (id : Nat)
  | was (id : Nat)
  | ptr (id off : Nat)
  | eptr (id i off : Nat)
  | fptr (cs : List AV) (off : Nat)
  | agg (cs : List AV)
  | tup (vs : List AV)
  | fn (f : Nat) (caps : List AV)
  | clo (f : Nat) (K : Kd) (x : K.T)

/-- The cells of a typed value. -/
def Kd.enc : (K : Kd) → K.T → List AV
  | .int k, n => [.int k n]
  | .bool, b => [.bool b]
  | .str, s => [.str s]
  | .slice e, xs => [.lst e xs]
  | .pair a b, x => a.enc x.1 ++ b.enc x.2
  | .own t e, xs => [.new t e xs]
  | .ref K, x => [.ref (K.enc x)]
  | .fun f, _ => [.fn f []]
  | .clo f K, x => [.clo f K x]

/-- A typed value as one abstract value. -/
def Kd.av : (K : Kd) → K.T → AV
  | .int k, n => .int k n
  | .bool, b => .bool b
  | .str, s => .str s
  | .slice e, xs => .lst e xs
  | .pair a b, x => .agg ((Kd.pair a b).enc x)
  | .own t e, xs => .new t e xs
  | .ref K, x => .ref (K.enc x)
  | .fun f, _ => .fn f []
  | .clo f K, x => .clo f K x

/-- Typed values out of cells. -/
def Kd.dec : (K : Kd) → List AV → Option (K.T × List AV)
  | .int k, .int k' n :: r => if k = k' then some (n, r) else none
  | .bool, .bool b :: r => some (b, r)
  | .str, .str s :: r => some (s, r)
  | .slice _, .nil :: r => some ([], r)
  | .slice e, .lst e' xs :: r => if h : e' = e then some (h ▸ xs, r) else none
  | .pair a b, cs => (a.dec cs).bind fun x => (b.dec x.2).bind fun y => some ((x.1, y.1), y.2)
  | .own t e, .new t' e' xs :: r => if t' = t then (if h : e' = e then some (h ▸ xs, r) else none) else none
  | .ref K, .ref cs :: r => (K.dec cs).bind fun x => match x.2 with | [] => some (x.1, r) | _ => none
  | .fun f, .fn f' [] :: r => if f' = f then some ((), r) else none
  | .clo f K, .clo f' K' x :: r => if f' = f then (if h : K' = K then some (h ▸ x, r) else none) else none
  | _, _ => none

def AV.cells : AV → List AV
  | .agg cs => cs
  | v => [v]

def eqK : (K : Kd) → K.T → K.T → Bool
  | .int _, a, b => a == b
  | .bool, a, b => a == b
  | .str, a, b => a.toList == b.toList
  | .slice _, _, _ => false
  | .pair a b, x, y => eqK a x.1 y.1 && eqK b x.2 y.2
  | .own _ _, _, _ => false
  | .ref _, _, _ => false
  | .fun _, _, _ => false
  | .clo _ _, _, _ => false

def bytesOf (xs : List Int) : ByteArray := ⟨(xs.map fun n => UInt8.ofNat n.toNat).toArray⟩

/-- Pairs are structs, all else one cell. -/
def AV.fits : Kd → AV → Bool
  | .pair _ _, .agg _ => true
  | .pair _ _, _ => false
  | _, .agg _ => false
  | _, _ => true

/-- All of some cells, read as one typed value. -/
def Kd.ofCells (K : Kd) (cs : List AV) : Option K.T := (K.dec cs).bind fun x => match x.2 with | [] => some x.1 | _ => none

def Kd.of (K : Kd) (v : AV) : Option K.T := if AV.fits K v = true then K.ofCells v.cells else none

inductive Box where
  | var (cs : List AV)
  | rows (t : TypeId) (K : Kd) (xs : List K.T)
  | mrow (t : TypeId) (K : Kd) (xs : List K.T)
  | frz (K : Kd) (xs : List K.T)
  | dead

structure St where
  fr : List (Nat × AV)
  st : List Box

def getT : List (Nat × AV) → Nat → AV
  | [], _ => .undef
  | (s, v) :: r, t => if s = t then v else getT r t

inductive Opd where
  | t (n : Nat)
  | c (v : AV)

def St.opd (s : St) : Opd → AV
  | .t n => getT s.fr n
  | .c v => v

def St.put (s : St) (d : Nat) (v : AV) : St := ⟨(d, v) :: s.fr, s.st⟩

/-- The type of several typed values together. -/
@[reducible] def RT : List Kd → Type
  | [] => Unit
  | [K] => K.T
  | K :: L :: Ks => K.T × RT (L :: Ks)

/-- Typed results and boxes out of what a call hands back. -/
def decAll : (Ks : List Kd) → List AV → Option (RT Ks)
  | [], [] => some ()
  | [K], [v] => K.of v
  | K :: L :: Ks, v :: vs => (K.of v).bind fun x => (decAll (L :: Ks) vs).bind fun r => some (x, r)
  | _, _ => none

def encAll : (Ks : List Kd) → RT Ks → List AV
  | [], _ => []
  | [K], x => [K.av x]
  | K :: L :: Ks, x => K.av x.1 :: encAll (L :: Ks) x.2

/-- What a parameter is: a value of a kind (val: its rows are frozen; bor: a row, read alone; mov: a row, given away), or the address of a box that holds one; mut: a row that is lent for writing. -/
inductive PK where
  | val (K : Kd)
  | bor (K : Kd)
  | mov (K : Kd)
  | ptr (K : Kd)
  | mut (K : Kd)
  | cap (f : Nat) (K : Kd)
  | cap0 (f : Nat)

/-- Annotated operations: sizes, offsets and kinds are written out; 'chk' holds them against the loaded code. -/
inductive AOp where
  | mv (d : Nat) (x : Opd)
  | nilrow (d : Nat) (t : TypeId) (K : Kd)
  | pick (d : Nat) (c a b : Opd)
  | sc (c : Nat) (want : Bool) (ops : List AOp) (d : Nat) (a b : Opd)
  | alloc (d : Nat) (cs : List AV)
  | box (d : Nat) (x : Opd) (own : Bool)
  | build (d : Nat) (zero : List AV) (parts : List (Nat × Nat × Opd))
  | bnew (d : Nat) (zero : List AV) (parts : List (Nat × Nat × Opd))
  | brow (d : Nat) (t : TypeId) (K : Kd) (parts : List Opd)
  | blst (d : Nat) (K : Kd) (parts : List Opd)
  | load (d : Nat) (x : Opd) (n : Option Nat)
  | store (x y : Opd) (m : Nat) (own : Bool)
  | nilc (d : Nat) (x : Opd)
  | bin (d : Nat) (op : BinOp) (x y : Opd)
  | eqs (d : Nat) (neg : Bool) (K : Kd) (x y : Opd)
  | un (d : Nat) (op : UnOp) (x : Opd)
  | cvi (d : Nat) (k : IntKind) (x : Opd)
  | bts (d : Nat) (x : Opd)
  | fld (d : Nat) (x : Opd) (off : Nat)
  | field (d : Nat) (x : Opd) (off : Nat) (n : Option Nat)
  | idx (d : Nat) (z : Nat) (x i : Opd)
  | sidx (d : Nat) (x i : Opd)
  | sl (d : Nat) (z : Nat) (x : Opd) (lo hi : Option Opd)
  | mk (d : Nat) (t : TypeId) (K : Kd) (n : Opd)
  | fn (d : Nat) (f : Nat) (caps : List Opd)
  | clo (d : Nat) (f : Nat) (K : Kd) (x : Opd)
  | fbox (d : Nat) (x : Opd)
  | min (d : Nat) (x y : Opd)
  | app (d : Nat) (e : TypeId) (K : Kd) (a b : Opd)
  | apz (d : Nat) (e : TypeId) (K : Kd) (a b : Opd)
  | len (d : Nat) (t : Bool) (x : Opd)
  | call (d : Option Nat) (f : Nat) (args : List (Opd × PK)) (res : List Kd)
  | ext (d : Nat) (x : Opd) (i : Nat)

/-- A slice's list, whatever stands for it. -/
def St.list {ρ : Type} (s : St) (v : AV) (K : Kd) (kn : List K.T → Option ρ) : Option ρ :=
  match v with
  | .nil => kn []
  | .lst K' xs => if h : K' = K then kn (h ▸ xs) else none
  | .row id => match s.st[id]? with
    | some (.rows _ K' xs) => if h : K' = K then kn (h ▸ xs) else none
    | some (.frz K' xs) => if h : K' = K then kn (h ▸ xs) else none
    | some (.mrow _ K' xs) => if h : K' = K then kn (h ▸ xs) else none
    | _ => none
  | _ => none

/-- A value that may be kept for good: a live row is frozen. -/
def St.keep (s : St) (v : AV) : Option (AV × St) :=
  match v with
  | .int .. | .bool _ | .str _ | .nil | .lst .. | .fn _ [] | .clo .. => some (v, s)
  | .row id => match s.st[id]? with
    | some (.rows _ K xs) => some (.lst K xs, ⟨s.fr, s.st.set id (.frz K xs)⟩)
    | some (.frz K xs) => some (.lst K xs, s)
    | _ => none
  | _ => none

def St.keepAll (s : St) : List AV → Option (List AV × St)
  | [] => some ([], s)
  | v :: vs => (s.keep v).bind fun x => (x.2.keepAll vs).bind fun y => some (x.1 :: y.1, y.2)

/-- The same of several values, structs among them. -/
def St.keepAlls (s : St) : List AV → Option (List (List AV) × St)
  | [] => some ([], s)
  | v :: vs => (s.keepAll v.cells).bind fun x => (x.2.keepAlls vs).bind fun y => some (x.1 :: y.1, y.2)

def putCells : List AV → Nat → List AV → List AV
  | cs, _, [] => cs
  | cs, o, v :: vs => putCells (cs.set o v) (o + 1) vs

/-- A cell that holds no reference into the store. -/
def AV.solid : AV → Bool
  | .int .. | .bool _ | .str _ | .nil | .lst .. | .fn _ [] | .clo .. => true
  | _ => false

/-- A value that can be stored. -/
def AV.good : AV → Bool
  | .row _ => true
  | v => v.solid

/-- A value that holds none. -/
def AV.firm : AV → Bool
  | .agg cs => cs.all AV.solid
  | v => v.solid

def hasN : List Nat → Nat → Bool
  | [], _ => false
  | a :: r, i => if a = i then true else hasN r i

/-- Rows that are not what they were: references to them are forgotten. -/
def AV.kill1 (ids : List Nat) : AV → AV
  | .row i => if hasN ids i = true then .undef else .row i
  | .eptr i j o => if hasN ids i = true then .undef else .eptr i j o
  | .agg _ => .undef
  | .tup _ => .undef
  | v => v
def AV.kill (ids : List Nat) : AV → AV
  | .agg cs => .agg (cs.map (AV.kill1 ids))
  | .tup vs => if vs.all AV.firm = true then .tup vs else .undef
  | v => v.kill1 ids
def killT (ids : List Nat) (p : Nat × AV) : Nat × AV := (p.1, p.2.kill ids)
/-- The same in a variable's cell: it stays the place of its row. -/
def AV.killB (ids : List Nat) : AV → AV
  | .row i => if hasN ids i = true then .was i else .row i
  | v => v
def Box.kill (ids : List Nat) : Box → Box
  | .var cs => .var (cs.map (AV.killB ids))
  | b => b
def St.kill (s : St) (ids : List Nat) : St := ⟨s.fr.map (killT ids), s.st.map (Box.kill ids)⟩

/-- A place of a row, which may have been given away. -/
def placeB : Option Box → Bool
  | some (.rows _ _ _) => true
  | some .dead => true
  | _ => false
/-- A row comes into a place of its own: it moves there; nil empties it. The rows that are not what they were. -/
def St.intoRow (s : St) (i : Nat) (v : AV) : Option (AV × St × List Nat) :=
  match v with
  | .row k => if k = i then some (.row i, s, []) else match s.st[k]? with
    | some (.rows t K xs) => if placeB s.st[i]? = true then some (.row i, ⟨s.fr.map (killT [i, k]), ((s.st.map (Box.kill [i, k])).set i (.rows t K xs)).set k .dead⟩, [i, k]) else none
    | _ => none
  | .nil => match s.st[i]? with
    | some (.rows t K _) => some (.row i, ⟨s.fr.map (killT [i]), (s.st.map (Box.kill [i])).set i (.rows t K [])⟩, [i])
    | _ => none
  | _ => none

/-- A value that comes into a variable's cell. -/
def St.into (s : St) (own : Bool) (c v : AV) : Option (AV × St × List Nat) :=
  match c with
  | .row i => s.intoRow i v
  | .was i => s.intoRow i v
  | _ => if own = true then (match v with
      | .row k => some (.row k, s, [])
      | _ => if v.solid = true then some (v, s, []) else none)
    else (s.keep v).bind fun x => some (x.1, x.2, [])

def AV.rowIn (ids : List Nat) : AV → Bool
  | .row i => hasN ids i
  | _ => false

def St.intoAll (s : St) (own : Bool) : List AV → List AV → Option (List AV × St × List Nat)
  | [], [] => some ([], s, [])
  | c :: cs, v :: vs => (s.into own c v).bind fun x => (x.2.1.intoAll own cs (vs.map (AV.kill1 x.2.2))).bind fun y =>
      if x.1.rowIn y.2.2 = true then none else some (x.1 :: y.1, y.2.1, x.2.2 ++ y.2.2)
  | _, _ => none

/-- Cells that a new variable begins with. -/
def St.stash (s : St) (own : Bool) (cs : List AV) : Option (List AV × St) :=
  if own = true then (if cs.all AV.good = true then some (cs, s) else none) else s.keepAll cs

/-- What lies behind an address: all cells there, and the place. -/
def St.behind (s : St) (v : AV) : Option (List AV × Nat) :=
  match v with
  | .fptr cs off => some (cs, off)
  | .ptr id off => match s.st[id]? with
    | some (.var cs) => some (cs, off)
    | _ => none
  | .eptr id i off => match s.st[id]? with
    | some (.rows _ K xs) => some (K.enc (xs.getD i K.zero), off)
    | some (.frz K xs) => some (K.enc (xs.getD i K.zero), off)
    | some (.mrow _ K xs) => some (K.enc (xs.getD i K.zero), off)
    | _ => none
  | _ => none

def part (cs : List AV) (off : Nat) : Option Nat → AV
  | some n => .agg ((cs.drop off).take n)
  | none => (cs.drop off).headD .undef

/-- A value all of whose cells are known. -/
def AV.full : AV → Bool
  | .undef | .void | .tup _ | .new .. | .ref _ | .was _ => false
  | _ => true

/-- A struct's cells, part by part. -/
def St.filled (s : St) : List AV → List (Nat × Nat × Opd) → Option (List AV)
  | cs, [] => some cs
  | cs, (off, n, x) :: r => if (s.opd x).full = true ∧ (s.opd x).cells.length = n ∧ off + n ≤ cs.length then s.filled (putCells cs off (s.opd x).cells) r else none

def St.storeAt (s : St) (own : Bool) (p : AV) (vs : List AV) : Option St :=
  match p with
  | .ptr id off => match s.st[id]? with
    | some (.var cs) => if off + vs.length ≤ cs.length then (s.intoAll own ((cs.drop off).take vs.length) vs).bind fun y => match y.2.1.st[id]? with
        | some (.var cs') => some ⟨y.2.1.fr, y.2.1.st.set id (.var (putCells cs' off y.1))⟩
        | _ => none
      else none
    | _ => none
  | .eptr id i off => (s.keepAll vs).bind fun z => match z.2.st[id]? with
    | some (.rows t K xs) => if off + z.1.length ≤ K.sz then
        (K.dec (putCells (K.enc (xs.getD i K.zero)) off z.1)).bind fun x => some ⟨z.2.fr, z.2.st.set id (.rows t K (xs.set i x.1))⟩
      else none
    | some (.mrow t K xs) => if off + z.1.length ≤ K.sz then
        (K.dec (putCells (K.enc (xs.getD i K.zero)) off z.1)).bind fun x => some ⟨z.2.fr, z.2.st.set id (.mrow t K (xs.set i x.1))⟩
      else none
    | _ => none
  | _ => none

def bitsAnd (k : IntKind) (a b : Int) : Int := k.wrap (BitVec.ofInt k.bits a &&& BitVec.ofInt k.bits b).toNat
def bitsOr (k : IntKind) (a b : Int) : Int := k.wrap (BitVec.ofInt k.bits a ||| BitVec.ofInt k.bits b).toNat
def bitsXor (k : IntKind) (a b : Int) : Int := k.wrap (BitVec.ofInt k.bits a ^^^ BitVec.ofInt k.bits b).toNat

def binop {ρ : Type} (op : BinOp) (x y : AV) (kn : AV → Option ρ) : Option ρ :=
  match x, y with
  | .int k a, .int k' b =>
    match op with
    | .shl => if b < 0 then none else kn (.int k (k.wrap (a * 2 ^ (min b.toNat k.bits))))
    | .shr => if b < 0 then none else kn (.int k (a.fdiv (2 ^ (min b.toNat k.bits))))
    | _ => if k = k' then
      match op with
      | .add => kn (.int k (k.wrap (a + b)))
      | .sub => kn (.int k (k.wrap (a - b)))
      | .mul => kn (.int k (k.wrap (a * b)))
      | .quo => if b = 0 then none else kn (.int k (k.wrap (a.tdiv b)))
      | .rem => if b = 0 then none else kn (.int k (a.tmod b))
      | .and => kn (.int k (bitsAnd k a b))
      | .or => kn (.int k (bitsOr k a b))
      | .xor => kn (.int k (bitsXor k a b))
      | .eql => kn (.bool (a == b))
      | .neq => kn (.bool (a != b))
      | .lss => kn (.bool (a < b))
      | .leq => kn (.bool (a ≤ b))
      | .gtr => kn (.bool (a > b))
      | .geq => kn (.bool (a ≥ b))
      | _ => none
    else none
  | .str a, .str b =>
    match op with
    | .add => if a.size + b.size ≤ 1099511627776 then kn (.str (a ++ b)) else none
    | .eql => kn (.bool (a.toList == b.toList))
    | .neq => kn (.bool (!(a.toList == b.toList)))
    | .lss => kn (.bool (Op.bytesLess a.toList b.toList))
    | .leq => kn (.bool (Op.bytesLess a.toList b.toList || a.toList == b.toList))
    | .gtr => kn (.bool (!(Op.bytesLess a.toList b.toList || a.toList == b.toList)))
    | .geq => kn (.bool (!(Op.bytesLess a.toList b.toList)))
    | _ => none
  | _, _ => none

def unop {ρ : Type} (op : UnOp) (x : AV) (kn : AV → Option ρ) : Option ρ :=
  match op, x with
  | .not, .bool b => kn (.bool (!b))
  | .neg, .int k n => kn (.int k (k.wrap (0 - n)))
  | _, _ => none

def Kd.ofs (K : Kd) : List (List AV) → Option (List K.T)
  | [] => some []
  | cs :: vs => (K.dec cs).bind fun x => match x.2 with | [] => (K.ofs vs).bind fun xs => some (x.1 :: xs) | _ => none

/-- Closed cells (a row of its own: .new, a new variable: .ref) opened again: boxes, and references to them from number k on. -/
def AV.isNew : AV → Bool
  | .new .. | .ref _ => true
  | _ => false
def newCount : List AV → Nat
  | [] => 0
  | a :: r => if a.isNew = true then newCount r + 1 else newCount r
def openC : Nat → List AV → List AV
  | _, [] => []
  | k, a :: r => match a with
    | .new .. => .row k :: openC (k + 1) r
    | .ref _ => .ptr k 0 :: openC (k + 1) r
    | a => a :: openC k r
def openB : List AV → List Box
  | [] => []
  | a :: r => match a with
    | .new t K xs => .rows t K xs :: openB r
    | .ref cs => .var cs :: openB r
    | _ => openB r
def openV (k : Nat) : AV → AV
  | .agg cs => .agg (openC k cs)
  | v => (openC k [v]).headD .undef
def openVs : Nat → List AV → List AV
  | _, [] => []
  | k, v :: r => openV k v :: openVs (k + newCount v.cells) r
/-- What boxes that are handed over hold: a row that is lent for writing is a box itself. -/
def AV.cellsO : AV → List AV
  | .new .. => []
  | v => v.cells
def boxO (k : Nat) : AV → Box
  | .new t K xs => .mrow t K xs
  | v => .var (openC k v.cells)
def openVars : Nat → List AV → List Box
  | _, [] => []
  | k, v :: r => boxO k v :: openVars (k + newCount v.cellsO) r
def newBoxesO : List AV → List Box
  | [] => []
  | v :: r => openB v.cellsO ++ newBoxesO r
def newBoxes : List AV → List Box
  | [] => []
  | v :: r => openB v.cells ++ newBoxes r
/-- The store at a call's border: the boxes that are handed over, their rows, then what values bring along. -/
def exitSt (outs vs : List AV) : List Box := openVars outs.length outs ++ (newBoxesO outs ++ newBoxes vs)
def handed (outs : List AV) : Nat := outs.length + (newBoxesO outs).length

def Kd.leaves : Kd → List Kd
  | .pair a b => a.leaves ++ b.leaves
  | K => [K]
def Kd.isOwn : Kd → Bool
  | .own _ _ => true
  | _ => false
/-- The rows that a kind owns. -/
def Kd.owns (K : Kd) : List Kd := K.leaves.filter Kd.isOwn
def mutKs : List Kd → Nat → List (Nat × Kd)
  | [], _ => []
  | k :: ks, j => (j, k) :: mutKs ks (j + 1)

/-- A struct's rows that are lent for reading. -/
def borC (st : List Box) : List AV → Option (List AV × List Nat)
  | [] => some ([], [])
  | v :: vs => match v with
    | .row id => match st[id]? with
      | some (.rows _ e xs) => (borC st vs).bind fun r => some (.lst e xs :: r.1, id :: r.2)
      | some (.frz e xs) => (borC st vs).bind fun r => some (.lst e xs :: r.1, r.2)
      | _ => none
    | v => if v.solid = true then (borC st vs).bind fun r => some (v :: r.1, r.2) else none

/-- A frozen value in its kind's own form. -/
def AV.norm (k : Kd) (v : AV) : Option AV :=
  match v with
  | .nil => match k with
    | .slice e => some (.lst e [])
    | _ => none
  | v => if v.solid = true then some v else none

/-- Rows that are lent for writing, a struct's too: each is a box of the callee's. -/
def mutC (st : List Box) : Nat → List Kd → List AV → Option (List AV × List (Nat × Kd))
  | _, [], [] => some ([], [])
  | j, k :: ks, v :: vs => match v with
    | .row id => match st[id]? with
      | some (.rows t e _) => if Kd.own t e = k then (mutC st (j + 1) ks vs).bind fun r => some (.row j :: r.1, (id, k) :: r.2) else none
      | some (.mrow t e _) => if Kd.own t e = k then (mutC st (j + 1) ks vs).bind fun r => some (.row j :: r.1, (id, k) :: r.2) else none
      | _ => none
    | v => (v.norm k).bind fun a => (mutC st j ks vs).bind fun r => some (a :: r.1, r.2)
  | _, _, _ => none
def AV.like (v : AV) (cs : List AV) : AV :=
  match v with
  | .agg _ => .agg cs
  | _ => cs.headD .undef

/-- What a call hands over: boxes by pointer (with their kinds), rows that are given away, rows that are lent. -/
structure Hand where
  args : List AV
  ptrs : List (Nat × Kd)
  movs : List Nat
  bors : List Nat

def St.args (s : St) : List (Opd × PK) → Nat → Option (Hand × St)
  | [], _ => some (⟨[], [], [], []⟩, s)
  | (x, .val K) :: r, j => if AV.fits K (s.opd x) = true then (s.keepAll (s.opd x).cells).bind fun y => (K.ofCells y.1).bind fun z => (y.2.args r j).bind fun q =>
      some (⟨K.av z :: q.1.args, q.1.ptrs, q.1.movs, q.1.bors⟩, q.2) else none
  | (x, .bor K) :: r, j => match s.opd x with
    | .row id => match s.st[id]? with
      | some (.rows _ e xs) => if Kd.slice e = K then (s.args r j).bind fun q => some (⟨.lst e xs :: q.1.args, q.1.ptrs, q.1.movs, id :: q.1.bors⟩, q.2) else none
      | some (.frz e xs) => if Kd.slice e = K then (s.args r j).bind fun q => some (⟨.lst e xs :: q.1.args, q.1.ptrs, q.1.movs, q.1.bors⟩, q.2) else none
      | _ => none
    | .agg cs => if AV.fits K (.agg cs) = true then (borC s.st cs).bind fun y => (K.ofCells y.1).bind fun z => (s.args r j).bind fun q => some (⟨K.av z :: q.1.args, q.1.ptrs, q.1.movs, y.2 ++ q.1.bors⟩, q.2) else none
    | v => if v.solid = true then (K.ofCells [v]).bind fun z => (s.args r j).bind fun q => some (⟨K.av z :: q.1.args, q.1.ptrs, q.1.movs, q.1.bors⟩, q.2) else none
  | (x, .mov K) :: r, j => match s.opd x with
    | .row id => match s.st[id]? with
      | some (.rows t e xs) => if Kd.own t e = K then (s.args r j).bind fun q => some (⟨.new t e xs :: q.1.args, q.1.ptrs, id :: q.1.movs, q.1.bors⟩, q.2) else none
      | _ => none
    | _ => none
  | (x, .ptr K) :: r, j => match s.opd x with
    | .ptr id 0 => (s.args r (j + 1)).bind fun q => some (⟨.ptr j 0 :: q.1.args, (id, K) :: q.1.ptrs, q.1.movs, q.1.bors⟩, q.2)
    | _ => none
  | (x, .mut K) :: r, j => (mutC s.st j K.leaves (s.opd x).cells).bind fun y => (s.args r (j + y.2.length)).bind fun q =>
      some (⟨(s.opd x).like y.1 :: q.1.args, y.2 ++ q.1.ptrs, q.1.movs, q.1.bors⟩, q.2)
  | (x, .cap f K) :: r, j => match s.opd x with
    | .clo f' K' z => if f' = f then (if K' = K then (s.args r j).bind fun q => some (⟨.fptr (K'.enc z) 0 :: q.1.args, q.1.ptrs, q.1.movs, q.1.bors⟩, q.2) else none) else none
    | _ => none
  | (x, .cap0 f) :: r, j => match s.opd x with
    | .fn f' [] => if f' = f then s.args r j else none
    | _ => none

def normAll : List Kd → List AV → Option (List AV)
  | [], [] => some []
  | k :: ks, v :: vs => (v.norm k).bind fun a => (normAll ks vs).bind fun r => some (a :: r)
  | _, _ => none

/-- A box's cells closed: rows of its own as they are now; and which they are. -/
def closeC (st : List Box) : List Kd → List AV → Option (List AV × List Nat)
  | [], [] => some ([], [])
  | k :: ks, v :: vs => match v with
    | .row i => match k with
      | .own _ _ => match st[i]? with
        | some (.rows t e xs) => (closeC st ks vs).bind fun y => some (.new t e xs :: y.1, i :: y.2)
        | _ => none
      | _ => none
    | v => (v.norm k).bind fun a => (closeC st ks vs).bind fun y => some (a :: y.1, y.2)
  | _, _ => none

def boxesOf (st : List Box) : List (Nat × Kd) → Option (List AV × List Nat)
  | [] => some ([], [])
  | (b, K) :: bs => match st[b]? with
    | some (.var cs) => if K.isOwn = true then none else (closeC st K.leaves cs).bind fun y => (K.ofCells y.1).bind fun x => (boxesOf st bs).bind fun r => some (K.av x :: r.1, y.2 ++ r.2)
    | some (.rows t e xs) => if Kd.own t e = K then (boxesOf st bs).bind fun r => some (.new t e xs :: r.1, r.2) else none
    | some (.mrow t e xs) => if Kd.own t e = K then (boxesOf st bs).bind fun r => some (.new t e xs :: r.1, r.2) else none
    | _ => none

def nodupN : List Nat → Bool
  | [] => true
  | p :: r => !(hasN r p) && nodupN r
def apartN : List Nat → List Nat → Bool
  | [], _ => true
  | p :: r, l => !(hasN l p) && apartN r l
/-- These rows are live. -/
def liveRows (st : List Box) : List Nat → Bool
  | [] => true
  | i :: r => (match st[i]? with | some (.rows _ _ _) => true | _ => false) && liveRows st r

def idxN : List Nat → Nat → Option Nat
  | [], _ => none
  | a :: r, i => if a = i then some 0 else (idxN r i).map (· + 1)

def AV.ren (f : Nat → Nat) : AV → AV
  | .row k => .row (f k)
  | .ptr k o => .ptr (f k) o
  | .eptr k i o => .eptr (f k) i o
  | v => v
def AV.renV (f : Nat → Nat) : AV → AV
  | .agg cs => .agg (cs.map (AV.ren f))
  | v => v.ren f
def Box.ren (f : Nat → Nat) : Box → Box
  | .var cs => .var (cs.map (AV.ren f))
  | b => b
/-- The callee's number of a box, and the caller's. -/
def renN (back : List Nat) (n k : Nat) : Nat := if k < back.length then back.getD k 0 else n + (k - back.length)
/-- A row that was lent for writing is its owner's again. -/
def backB : Box → Box → Box
  | .rows _ _ _, .mrow t K xs => .rows t K xs
  | _, e => e
def graftAt (back gone : List Nat) (nv n : Nat) (est : List Box) : Nat → List Box → List Box
  | _, [] => []
  | i, b :: r => (if hasN gone i = true then .dead else match idxN back i with
      | some k => (backB b (est.getD k .dead)).ren (renN back n)
      | none => b.kill (back.drop nv ++ gone)) :: graftAt back gone nv n est (i + 1) r
/-- The caller's store behind a call. -/
def graft (st : List Box) (nv : Nat) (back gone : List Nat) (est : List Box) : List Box :=
  graftAt back gone nv st.length est 0 st ++ (est.drop back.length).map (Box.ren (renN back st.length))

/-- Kinds, boxes and values without lists that are kept. -/
def Kd.flat : Kd → Bool
  | .slice _ | .own _ _ | .ref _ | .fun _ | .clo _ _ => false
  | .pair a b => a.flat && b.flat
  | _ => true
def AV.flat : AV → Bool
  | .int .. | .bool _ | .str _ | .nil | .row _ | .was _ | .ptr .. => true
  | _ => false
def AV.flatV : AV → Bool
  | .agg cs => cs.all AV.flat
  | v => v.flat
def Box.flat : Box → Bool
  | .var cs => cs.all AV.flat
  | .rows _ K _ => K.flat
  | .mrow _ K _ => K.flat
  | _ => false

def tupOf : List AV → AV
  | [v] => v
  | vs => .tup vs


mutual
/-- The temporaries that operations write. -/
def AOp.dsts : AOp → List Nat
  | .mv d _ | .nilrow d _ _ | .pick d _ _ _ | .alloc d _ | .box d _ _ | .build d _ _ | .bnew d _ _ | .brow d _ _ _ | .blst d _ _ | .load d _ _ | .nilc d _ | .bin d _ _ _
  | .eqs d _ _ _ _ | .un d _ _ | .cvi d _ _ | .bts d _ | .fld d _ _ | .field d _ _ _ | .idx d _ _ _ | .sidx d _ _ | .sl d _ _ _ _ | .mk d _ _ _ | .fn d _ _ | .clo d _ _ _ | .fbox d _ | .min d _ _
  | .app d _ _ _ _ | .apz d _ _ _ _ | .len d _ _ | .ext d _ _ => [d]
  | .call d _ _ _ => d.toList
  | .store _ _ _ _ => []
  | .sc _ _ ops d _ _ => dstsOf ops ++ [d]
def dstsOf : List AOp → List Nat
  | [] => []
  | o :: os => o.dsts ++ dstsOf os
end

def St.forget (s : St) (ds : List Nat) : St := ⟨ds.map (fun t => (t, .undef)) ++ s.fr, s.st⟩

def putO (d : Option Nat) (v : AV) (fr : List (Nat × AV)) : List (Nat × AV) := match d with | some d => (d, v) :: fr | none => fr

/-- Operations that yield a value and touch nothing. -/
def AOp.isVal : AOp → Bool
  | .mv .. | .pick .. | .load .. | .nilc .. | .bin .. | .eqs .. | .un .. | .cvi .. | .fld .. | .field .. | .idx .. | .sidx .. | .sl .. | .fn .. | .clo .. | .min .. | .len .. | .ext .. | .build .. => true
  | _ => false

/-- The boxes that an operation may write. -/
def AOp.touch (s : St) : AOp → List Nat
  | .store x _ _ _ => match s.opd x with
    | .ptr id _ => [id]
    | .eptr id _ _ => [id]
    | _ => []
  | .app _ _ _ a _ => match s.opd a with
    | .row id => [id]
    | _ => []
  | .apz _ _ _ a _ => match s.opd a with
    | .row id => [id]
    | _ => []
  | .call _ _ args _ => match s.args args 0 with
    | some q => match boxesOf q.2.st q.1.ptrs with
      | some bx => q.1.ptrs.map (·.1) ++ bx.2 ++ q.1.movs
      | none => []
    | none => []
  | _ => []

/-- A function's answer: its results, then what the boxes hold that were handed to it. -/
abbrev Cal := Nat → List AV → List AV → Option (List AV)

mutual
def opK {ρ : Type} (cal : Cal) (kn : St → Option ρ) (s : St) : AOp → Option ρ
  | .mv d x => kn (s.put d (s.opd x))
  | .nilrow d t K => kn ⟨(d, .row s.st.length) :: s.fr, s.st ++ [.rows t K []]⟩
  | .pick d c a b => match s.opd c with
    | .bool t => if t = true then kn (s.put d (s.opd a)) else kn (s.put d (s.opd b))
    | _ => none
  | .sc c want ops d a b => match getT s.fr c with
    | .bool t =>
      if t = want then opsK cal (fun s' => kn (s'.put d (if want then s'.opd a else s'.opd b))) s ops
      else kn ((s.forget (dstsOf ops)).put d (if want then (s.forget (dstsOf ops)).opd b else (s.forget (dstsOf ops)).opd a))
    | _ => none
  | .alloc d cs => kn ⟨(d, .ptr (s.st.length + newCount cs) 0) :: s.fr, s.st ++ openB cs ++ [.var (openC s.st.length cs)]⟩
  | .box d x own => (s.stash own (s.opd x).cells).bind fun y => kn ⟨(d, .ptr y.2.st.length 0) :: y.2.fr, y.2.st ++ [.var y.1]⟩
  | .build d zero parts => (s.filled zero parts).bind fun cs => kn (s.put d (.agg cs))
  | .bnew d zero parts => (s.filled (openC s.st.length zero) parts).bind fun cs => kn ⟨(d, .agg cs) :: s.fr, s.st ++ openB zero⟩
  | .brow d t K parts => (s.keepAlls (parts.map s.opd)).bind fun y => (K.ofs y.1).bind fun xs => kn ⟨(d, .row y.2.st.length) :: y.2.fr, y.2.st ++ [.rows t K xs]⟩
  | .blst d K parts => (s.keepAlls (parts.map s.opd)).bind fun y => (K.ofs y.1).bind fun xs => kn (y.2.put d (.lst K xs))
  | .load d x n => (s.behind (s.opd x)).bind fun y => if y.2 + n.getD 1 ≤ y.1.length then kn (s.put d (part y.1 y.2 n)) else none
  | .store x y m own => if (s.opd y).cells.length = m then (s.storeAt own (s.opd x) (s.opd y).cells).bind kn else none
  | .nilc d x => match s.opd x with
    | .ptr id off => kn (s.put d (.ptr id off))
    | .eptr id i off => kn (s.put d (.eptr id i off))
    | .fptr cs off => kn (s.put d (.fptr cs off))
    | _ => none
  | .bin d op x y => binop op (s.opd x) (s.opd y) fun v => kn (s.put d v)
  | .eqs d neg K x y => (K.of (s.opd x)).bind fun a => (K.of (s.opd y)).bind fun b => kn (s.put d (.bool (neg != eqK K a b)))
  | .un d op x => unop op (s.opd x) fun v => kn (s.put d v)
  | .cvi d k x => match s.opd x with
    | .int _ n => kn (s.put d (.int k (k.wrap n)))
    | _ => none
  | .bts d x => s.list (s.opd x) (.int .u8) fun xs => kn (s.put d (.str (bytesOf xs)))
  | .fld d x off => match s.opd x with
    | .ptr id o => kn (s.put d (.ptr id (o + off)))
    | .eptr id i o => kn (s.put d (.eptr id i (o + off)))
    | .fptr cs o => kn (s.put d (.fptr cs (o + off)))
    | _ => none
  | .field d x off n => match s.opd x with
    | .agg cs => if off + n.getD 1 ≤ cs.length then kn (s.put d (part cs off n)) else none
    | _ => none
  | .idx d z x i => match s.opd x, s.opd i with
    | .lst K xs, .int _ i => if K.sz = z then if 0 ≤ i then (if i < xs.length then kn (s.put d (.fptr (K.enc (xs.getD i.toNat K.zero)) 0)) else none) else none else none
    | .row id, .int _ i => match s.st[id]? with
      | some (.rows _ K xs) => if K.sz = z then if 0 ≤ i then (if i < xs.length then kn (s.put d (.eptr id i.toNat 0)) else none) else none else none
      | some (.frz K xs) => if K.sz = z then if 0 ≤ i then (if i < xs.length then kn (s.put d (.eptr id i.toNat 0)) else none) else none else none
      | some (.mrow _ K xs) => if K.sz = z then if 0 ≤ i then (if i < xs.length then kn (s.put d (.eptr id i.toNat 0)) else none) else none else none
      | _ => none
    | _, _ => none
  | .sidx d x i => match s.opd x, s.opd i with
    | .str b, .int _ i => if 0 ≤ i then (if i < b.size then kn (s.put d (.int .u8 (b.data.toList.getD i.toNat 0).toNat)) else none) else none
    | _, _ => none
  | .sl d z x lo hi => match s.opd x, (match lo with | none => AV.int .i64 0 | some l => s.opd l) with
    | .str b, .int _ l => if z = 0 then
      match (match hi with | none => AV.int .i64 b.size | some h => s.opd h) with
      | .int _ h => if 0 ≤ l then (if l ≤ h then (if h ≤ b.size then kn (s.put d (.str (b.extract l.toNat h.toNat))) else none) else none) else none
      | _ => none
      else none
    | .lst K xs, .int _ l => if K.sz = z then
      match (match hi with | none => AV.int .i64 xs.length | some h => s.opd h) with
      | .int _ h => if 0 ≤ l then (if l ≤ h then (if h ≤ xs.length then kn (s.put d (.lst K ((xs.take h.toNat).drop l.toNat))) else none) else none) else none
      | _ => none
      else none
    | _, _ => none
  | .mk d t K n => match s.opd n with
    | .int _ n => if 0 ≤ n then (if n ≤ 68719476736 then kn ⟨(d, .row s.st.length) :: s.fr, s.st ++ [.rows t K (List.replicate n.toNat K.zero)]⟩ else none) else none
    | _ => none
  | .fn d f caps => kn (s.put d (.fn f (caps.map s.opd)))
  | .clo d f K x => match s.opd x with
    | .fptr cs 0 => (K.ofCells cs).bind fun z => kn (s.put d (.clo f K z))
    | _ => none
  | .fbox d x => (s.keepAll (s.opd x).cells).bind fun y => kn (y.2.put d (.fptr y.1 0))
  | .min d x y => match s.opd x, s.opd y with
    | .int k a, .int k' b => if k = k' then kn (s.put d (.int k (min a b))) else none
    | _, _ => none
  | .app d e K a b => match s.opd a with
    | .row id => match s.st[id]? with
      | some (.rows t K' xs) => if h : K' = K then if t = e then
          s.list (s.opd b) K fun ys => if xs.length + ys.length ≤ 68719476736 then kn ⟨(d, .row id) :: s.fr.map (killT [id]), (s.st.map (Box.kill [id])).set id (.rows t K ((h ▸ xs) ++ ys))⟩ else none
        else none else none
      | _ => none
    | _ => none
  | .apz d e K a b => match s.opd a with
    | .row id => match s.st[id]? with
      | some (.rows t K' xs) => if h : K' = K then if t = e then
          s.list (s.opd b) K fun ys => if xs.length + ys.length ≤ 68719476736 then kn ⟨(d, .lst K ((h ▸ xs) ++ ys)) :: s.fr.map (killT [id]), (s.st.map (Box.kill [id])).set id (.frz K ((h ▸ xs) ++ ys))⟩ else none
        else none else none
      | _ => none
    | _ => none
  | .len d t x => match s.opd x with
    | .str b => if t = true then kn (s.put d (.int .i64 b.size)) else none
    | .nil => if t = true then none else kn (s.put d (.int .i64 0))
    | .lst _ xs => if t = true then none else kn (s.put d (.int .i64 xs.length))
    | .row id => if t = true then none else match s.st[id]? with
      | some (.rows _ _ xs) => kn (s.put d (.int .i64 xs.length))
      | some (.frz _ xs) => kn (s.put d (.int .i64 xs.length))
      | some (.mrow _ _ xs) => kn (s.put d (.int .i64 xs.length))
      | _ => none
    | _ => none
  | .call d f args res => (s.args args 0).bind fun q => (boxesOf q.2.st q.1.ptrs).bind fun bx =>
      if (nodupN (q.1.ptrs.map (·.1) ++ bx.2 ++ q.1.movs) && apartN q.1.bors (q.1.ptrs.map (·.1) ++ bx.2 ++ q.1.movs) && liveRows q.2.st (q.1.movs ++ q.1.bors)) = true then
        ((cal f q.1.args bx.1).bind (decAll (res ++ q.1.ptrs.map (·.2)))).bind fun y =>
          if (q.1.bors.isEmpty || ((exitSt ((encAll _ y).drop res.length) ((encAll _ y).take res.length)).all Box.flat
              && (openVs (handed ((encAll _ y).drop res.length)) ((encAll _ y).take res.length)).all AV.flatV)) = true then
            kn ⟨putO d (tupOf ((openVs (handed ((encAll _ y).drop res.length)) ((encAll _ y).take res.length)).map (AV.renV (renN (q.1.ptrs.map (·.1) ++ bx.2) q.2.st.length))))
                (q.2.fr.map (killT (bx.2 ++ q.1.movs))),
              graft q.2.st q.1.ptrs.length (q.1.ptrs.map (·.1) ++ bx.2) q.1.movs (exitSt ((encAll _ y).drop res.length) ((encAll _ y).take res.length))⟩
          else none
      else none
  | .ext d x i => match s.opd x with
    | .tup vs => if i < vs.length then kn (s.put d (vs.getD i .undef)) else none
    | _ => none
def opsK {ρ : Type} (cal : Cal) (kn : St → Option ρ) (s : St) : List AOp → Option ρ
  | [] => kn s
  | o :: os => opK cal (fun s' => opsK cal kn s' os) s o
end

/-- A region that draws its order, as a tree of steps: operations that touch nothing are taken as soon as may be, skipped ones too; all others are each the only one that may come; branches on guards. -/
inductive DT where
  | done
  | take (i : Nat) (g : Option (Nat × Bool)) (ao : AOp) (r : DT)
  | skip (i : Nat) (g : Nat × Bool) (d : Option Nat) (r : DT)
  | only (i : Nat) (g : Option (Nat × Bool)) (ao : AOp) (e : Bool) (fl : List (Nat × AOp)) (r : DT)
  | test (c : Nat) (a b : DT)

def gOk (s : St) : Option (Nat × Bool) → Bool
  | none => true
  | some g => match getT s.fr g.1 with
    | .bool t => t == g.2
    | _ => false
def gNot (s : St) (g : Nat × Bool) : Bool :=
  match getT s.fr g.1 with
  | .bool t => t != g.2
  | .void => true
  | _ => false

def AV.clear (tch : List Nat) : AV → Bool
  | .ptr id _ => !hasN tch id
  | .eptr id _ _ => !hasN tch id
  | .fptr _ _ => true
  | _ => false
def AOp.notSelf : AOp → Bool
  | .load d (.t x) _ => !(d == x)
  | _ => true
/-- Loads that were taken ahead: what they read is not touched. -/
def pendOk (anc tch : List Nat) (s : St) : List (Nat × Nat) → Bool
  | [] => true
  | p :: r => (hasN anc p.1 || (getT s.fr p.2).clear tch) && pendOk anc tch s r
def freshT (ds : List Nat) : List (Nat × Nat) → Bool
  | [] => true
  | p :: r => !hasN ds p.2 && freshT ds r
def pendAdd (i : Nat) (ao : AOp) (T : List (Nat × Nat)) : List (Nat × Nat) :=
  match ao with
  | .load _ (.t x) _ => (i, x) :: T
  | _ => T
def pendCut (anc : List Nat) : List (Nat × Nat) → List (Nat × Nat)
  | [] => []
  | p :: r => if hasN anc p.1 = true then pendCut anc r else p :: pendCut anc r

/-- Operations that bring new memory forth and do nothing else: they may come up ahead of their turn. -/
def AOp.isFloat : AOp → Bool
  | .alloc _ _ | .brow .. | .blst .. => true
  | _ => false
def AOp.floatOk (s : St) : AOp → Bool
  | .alloc _ _ => true
  | .brow _ _ K ps => (ps.map s.opd).all AV.firm && (K.ofs ((ps.map s.opd).map AV.cells)).isSome
  | .blst _ K ps => (ps.map s.opd).all AV.firm && (K.ofs ((ps.map s.opd).map AV.cells)).isSome
  | _ => false
def undefAll (s : St) : List Nat → Bool
  | [] => true
  | d :: r => (match getT s.fr d with | .undef => true | _ => false) && undefAll s r
def floatsOk (s : St) (T : List (Nat × Nat)) : List (Nat × AOp) → Bool
  | [] => true
  | f :: r => f.2.floatOk s && undefAll s f.2.dsts && freshT f.2.dsts T && floatsOk s T r

def dK {ρ : Type} (cal : Cal) (anc : List (List Nat)) (kn : St → Option ρ) : DT → List (Nat × Nat) → St → Option ρ
  | .done, _, s => kn s
  | .take i g ao r, T, s => if (gOk s g && freshT ao.dsts T && ao.notSelf) = true then opK cal (fun s' => dK cal anc kn r (pendAdd i ao T) s') s ao else none
  | .skip _ g d r, T, s => if (gNot s g && freshT d.toList T) = true then dK cal anc kn r T ⟨putO d .void s.fr, s.st⟩ else none
  | .only i g ao e fl r, T, s => if (gOk s g && freshT ao.dsts T && pendOk (anc.getD i []) (ao.touch s) s T && floatsOk s T fl && (fl.all fun f => pendOk (anc.getD f.1 []) [] s T) && (!e || ao.floatOk s)) = true then opK cal (fun s' => dK cal anc kn r (pendCut (anc.getD i []) T) s') s ao else none
  | .test c a b, T, s => match getT s.fr c with
    | .bool t => if t = true then dK cal anc kn a T (s.put c (.bool true)) else dK cal anc kn b T (s.put c (.bool false))
    | _ => none

def DT.depth : DT → Nat
  | .done => 0
  | .take _ _ _ r | .skip _ _ _ r | .only _ _ _ _ _ r => r.depth + 1
  | .test _ a b => max a.depth b.depth

/-- References into boxes from number n on are forgotten. -/
def AV.older1 (n : Nat) : AV → AV
  | .row i => if i < n then .row i else .undef
  | .eptr i j o => if i < n then .eptr i j o else .undef
  | .ptr i o => if i < n then .ptr i o else .undef
  | .agg _ => .undef
  | .tup _ => .undef
  | v => v
def AV.older (n : Nat) : AV → AV
  | .agg cs => .agg (cs.map (AV.older1 n))
  | .tup _ => .undef
  | v => v.older1 n
def AV.olderC (n : Nat) : AV → AV
  | .row i => if i < n then .row i else .undef
  | c => c
def Box.older (n : Nat) : Box → Box
  | .var cs => .var (cs.map (AV.olderC n))
  | b => b

/-- What is kept: the temporaries 'live', the boxes below n. -/
def St.cut (s : St) (live : List Nat) (n : Nat) : St := ⟨live.map fun t => (t, (getT s.fr t).older n), (s.st.take n).map (Box.older n)⟩

/-- A row that stands behind a temporary comes to the place that it had before. -/
def homesOf (s : St) : List Nat → List (Nat × Nat)
  | [] => []
  | t :: r => match getT s.fr t with
    | .row i => (t, i) :: homesOf s r
    | _ => homesOf s r
def St.home (s : St) (n t i : Nat) : St :=
  match getT s.fr t with
  | .row k => if n ≤ k then (match s.intoRow i (.row k) with
    | some x => x.2.1.put t (.row i)
    | none => s) else s
  | _ => s
def St.homes (n : Nat) : List (Nat × Nat) → St → St
  | [], s => s
  | p :: r, s => St.homes n r (s.home n p.1 p.2)
def St.cutH (s : St) (hs : List (Nat × Nat)) (live : List Nat) (n : Nat) : St := (St.homes n hs s).cut live n

/-- Annotated code. -/
inductive ACode where
  | skip
  | region (ops : List AOp) (live : List Nat)
  | draw (anc : List (List Nat)) (t : DT) (live : List Nat)
  | seq (a b : ACode)
  | seqc (live : List Nat) (a b : ACode)
  | cond (c : Opd) (a b : ACode)
  | block (id : Nat) (live : List Nat) (body : ACode)
  | loop (live : List Nat) (body : ACode)
  | exit (id : Nat)
  | ret

def loopF {ρ : Type} : Nat → ((St → Option ρ) → St → Option ρ) → St → Option ρ
  | 0, _, _ => none
  | k + 1, F, s => F (fun s' => loopF k F s') s

def codeK {ρ : Type} (cal : Cal) (k : Nat) : ACode → (kn kr : St → Option ρ) → (ke : Nat → St → Option ρ) → St → Option ρ
  | .skip, kn, _, _, s => kn s
  | .region ops live, kn, _, _, s => opsK cal (fun s' => kn ⟨live.map fun t => (t, getT s'.fr t), s'.st⟩) s ops
  | .draw anc t live, kn, _, _, s => dK cal anc (fun s' => kn ⟨live.map fun t => (t, getT s'.fr t), s'.st⟩) t [] s
  | .seqc live a b, kn, kr, ke, s => codeK cal k a (fun s' => codeK cal k b kn kr ke (s'.cutH (homesOf s live) live s.st.length)) kr ke s
  | .seq a b, kn, kr, ke, s => codeK cal k a (fun s' => codeK cal k b kn kr ke s') kr ke s
  | .cond c a b, kn, kr, ke, s => match s.opd c with
    | .bool t => if t = true then codeK cal k a kn kr ke s else codeK cal k b kn kr ke s
    | _ => none
  | .block id live body, kn, kr, ke, s => codeK cal k body (fun s' => kn (s'.cutH (homesOf s live) live s.st.length)) kr (fun i s' => if i = id then kn (s'.cutH (homesOf s live) live s.st.length) else ke i s') s
  | .loop live body, _, kr, ke, s => loopF k (fun go s' => codeK cal k body (fun s'' => go (s''.cutH (homesOf s live) live s.st.length)) kr ke s') (s.cut live s.st.length)
  | .exit id, _, _, ke, s => ke id s
  | .ret, _, kr, _, s => kr s

/-- A result: the temporary, whether it holds the address of the cells, its kind. -/
structure Res where
  t : Nat
  cell : Bool
  K : Kd

structure AFn where
  params : List PK
  res : List Res
  body : ACode

/-- Cells that leave the function: rows and new variables are given away (tk: those that are gone), all else is kept for good. -/
def St.shutAll (s : St) (tk : List Nat) : List Kd → List AV → Option (List AV × List Nat × St)
  | [], [] => some ([], tk, s)
  | k :: ks, v :: vs => match v with
    | .row i => if hasN tk i = true then none else match k with
      | .own _ _ => match s.st[i]? with
        | some (.rows t e xs) => (s.shutAll (i :: tk) ks vs).bind fun y => some (.new t e xs :: y.1, y.2)
        | _ => none
      | _ => (s.keep (.row i)).bind fun x => (x.2.shutAll tk ks vs).bind fun y => some (x.1 :: y.1, y.2)
    | .ptr i 0 => if hasN tk i = true then none else match k with
      | .ref K => match s.st[i]? with
        | some (.var cs) => (normAll K.leaves cs).bind fun cs' => (s.shutAll (i :: tk) ks vs).bind fun y => some (.ref cs' :: y.1, y.2)
        | _ => none
      | _ => none
    | v => (v.norm k).bind fun a => (s.shutAll tk ks vs).bind fun y => some (a :: y.1, y.2)
  | _, _ => none

/-- A result in its kind's own form. -/
def St.resCells (s : St) (r : Res) : Option (List AV) :=
  if r.cell = true then (s.behind (getT s.fr r.t)).bind fun y => some ((y.1.drop y.2).take r.K.sz)
  else if (AV.fits r.K (getT s.fr r.t) && (getT s.fr r.t).full) = true then some (getT s.fr r.t).cells else none

def St.result (s : St) (tk : List Nat) : List Res → Option (List AV × List Nat × St)
  | [] => some ([], tk, s)
  | r :: rs => (s.resCells r).bind fun cs => (s.shutAll tk r.K.leaves cs).bind fun y => (r.K.ofCells y.1).bind fun x => (y.2.2.result y.2.1 rs).bind fun z => some (r.K.av x :: z.1, z.2)

def Kd.noRef : Kd → Bool
  | .pair a b => a.noRef && b.noRef
  | .ref _ => false
  | _ => true

def St.shutBoxes (s : St) (tk : List Nat) : List (Nat × Kd) → Option (List AV × List Nat × St)
  | [] => some ([], tk, s)
  | (b, K) :: bs => match s.st[b]? with
    | some (.mrow t e xs) => if Kd.own t e = K then (s.shutBoxes tk bs).bind fun z => some (.new t e xs :: z.1, z.2) else none
    | some (.var cs) => if (K.noRef && !K.isOwn) = true then (s.shutAll tk K.leaves cs).bind fun y => (K.ofCells y.1).bind fun x => (y.2.2.shutBoxes y.2.1 bs).bind fun z => some (K.av x :: z.1, z.2) else none
    | _ => none

def ptrKinds : List PK → Nat → List (Nat × Kd)
  | [], _ => []
  | .val _ :: r, j | .bor _ :: r, j | .mov _ :: r, j | .cap _ _ :: r, j | .cap0 _ :: r, j => ptrKinds r j
  | .ptr K :: r, j => (j, K) :: ptrKinds r (j + 1)
  | .mut K :: r, j => mutKs K.owns j ++ ptrKinds r (j + K.owns.length)

def AFn.outs (fn : AFn) : List Kd := fn.res.map (·.K) ++ (ptrKinds fn.params 0).map (·.2)

def retK (fn : AFn) (s : St) : Option (RT fn.outs) :=
  (s.result (List.range (ptrKinds fn.params 0).length) fn.res).bind fun y => (y.2.2.shutBoxes y.2.1 (ptrKinds fn.params 0)).bind fun b => decAll fn.outs (y.1 ++ b.1)

def paramsF : Nat → List AV → List (Nat × AV)
  | _, [] => []
  | i, v :: vs => (i, v) :: paramsF (i + 1) vs

/-- A function's body, carried out: typed. -/
def bodyK (cal : Cal) (k : Nat) (fn : AFn) (args bs : List AV) : Option (RT fn.outs) :=
  codeK cal k fn.body (retK fn) (retK fn) (fun _ _ => none) ⟨paramsF 0 (openVs (handed bs) args), exitSt bs args⟩

def callK (fns : Nat → Option AFn) (prims : Cal) : Nat → Cal
  | 0, _, _, _ => none
  | k + 1, f, args, bs => match fns f with
    | some fn => if args.length = fn.params.length ∧ bs.length = (ptrKinds fn.params 0).length then (bodyK (callK fns prims k) k fn args bs).map (encAll fn.outs) else none
    | none => prims f args bs

end Go.Proofs.Ytnbfkndicldppaa.Core
