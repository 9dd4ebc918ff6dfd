/- Texts of the proof, packed: part 1. -/
import Derived.Calls
import Derived.Tactics
import Derived.Laws.AppendOwn
import Derived.Below
import Derived.Lib.ItoaNum
import Derived.Deep.MidRow
import Derived.Laws.IdiomCopy
import Derived.Laws.AppendOwnNone
import Derived.Laws.OwnMore
import Derived.Great.BuildSlice
import Derived.Laws.StructEq
import Derived.Laws.BytesString
import Derived.Laws.BytesArg
import Derived.Laws.Slices
set_option linter.unusedVariables false
set_option linter.unusedSimpArgs false
namespace Go.Proofs.YtfcgblnlopemkaaGreatDoor.Core
open Go
abbrev O:ByteArray:=ByteArray.empty
theorem AC:type_of%@Bool.and_eq_true:=@Bool.and_eq_true
theorem Aj:type_of%@List.getElem?_eq_some_iff:=@List.getElem?_eq_some_iff
theorem BF:type_of%@List.getElem?_append_left:=@List.getElem?_append_left
theorem Ci:type_of%@List.getElem?_append_right:=@List.getElem?_append_right
theorem Ad:type_of%@Int.toNat_natCast:=@Int.toNat_natCast
theorem CZ:type_of%@List.mem_append:=@List.mem_append
theorem BG:type_of%@Option.some.injEq:=@Option.some.injEq
theorem BD:type_of%@List.getElem?_set:=@List.getElem?_set
theorem Bz:type_of%@List.getElem?_take:=@List.getElem?_take
theorem CT:type_of%@List.getElem?_map:=@List.getElem?_map
theorem C3:type_of%@List.getElem?_drop:=@List.getElem?_drop
theorem BW:type_of%@List.getElem_mem:=@List.getElem_mem
theorem CH:type_of%@Nat.mul_le_mul_right:=@Nat.mul_le_mul_right
theorem Be:type_of%@List.append_assoc:=@List.append_assoc
theorem BI:type_of%@List.mem_cons:=@List.mem_cons
theorem Dc:type_of%@List.getElem?_eq_none:=@List.getElem?_eq_none
theorem Bf:type_of%@List.all_eq_true:=@List.all_eq_true
theorem B5:type_of%@List.mem_singleton:=@List.mem_singleton
theorem DV:type_of%@List.length_eq_zero_iff:=@List.length_eq_zero_iff
theorem EK:type_of%@List.getElem_of_mem:=@List.getElem_of_mem
theorem B6:type_of%@Nat.lt_or_ge:=@Nat.lt_or_ge
theorem Dy:type_of%@Bool.or_eq_true:=@Bool.or_eq_true
theorem EL:type_of%@Bool.not_eq_true':=@Bool.not_eq_true'
theorem Z {α β:Type _} (a:α) (f:α->Option β):(some a).bind f=f a:=rfl
inductive Kd where
 | int (k:IntKind) | bool | str | slice (e:Kd) | pair (a b:Kd) | own (t:TypeId) (e:Kd) | ref (K:Kd) | fun (f:Nat) | clo (f:Nat) (K:Kd)
 deriving DecidableEq
@[reducible] def Kd.T:Kd->Type
 | .int _=>Int
 | .bool=>Bool
 | .str=>ByteArray
 | .slice e=>List e.T
 | .pair a b=>a.T×b.T
 | .own _ e=>List e.T
 | .ref K=>K.T
 | .fun _=>Unit
 | .clo _ K=>K.T
def Kd.sz:Kd->Nat
 | .pair a b=>a.sz+b.sz
 | _=>1
def Kd.zero:(K:Kd)->K.T
 | .int _=>(0:Int)
 | .bool=>false
 | .str=>ByteArray.empty
 | .slice e=>([]:List e.T)
 | .pair a b=>(a.zero,b.zero)
 | .own _ e=>([]:List e.T)
 | .ref K=>K.zero
 | .fun _=>()
 | .clo _ K=>K.zero
inductive AV where
 | undef
 | void
 | int (k:IntKind) (n:Int)
 | bool (b:Bool)
 | str (s:ByteArray)
 | nil
 | lst (K:Kd) (xs:List K.T)
 | new (t:TypeId) (K:Kd) (xs:List K.T)
 | ref (cs:List AV)
 | row (id:Nat)
 | was (id:Nat)
 | ptr (id off:Nat)
 | eptr (id i off:Nat)
 | fptr (cs:List AV) (off:Nat)
 | agg (cs:List AV)
 | tup (vs:List AV)
 | fn (f:Nat) (caps:List AV)
 | clo (f:Nat) (K:Kd) (x:K.T)
 | self (T:TypeId)
def Kd.enc:(K:Kd)->K.T->List AV
 | .int k,n=>[.int k n]
 | .bool,b=>[.bool b]
 | .str,s=>[.str s]
 | .slice e,xs=>[.lst e xs]
 | .pair a b,x=>a.enc x.1++b.enc x.2
 | .own t e,xs=>[.new t e xs]
 | .ref K,x=>[.ref (K.enc x)]
 | .fun f,_=>[.fn f []]
 | .clo f K,x=>[.clo f K x]
def Kd.av:(K:Kd)->K.T->AV
 | .int k,n=>.int k n
 | .bool,b=>.bool b
 | .str,s=>.str s
 | .slice e,xs=>.lst e xs
 | .pair a b,x=>.agg ((Kd.pair a b).enc x)
 | .own t e,xs=>.new t e xs
 | .ref K,x=>.ref (K.enc x)
 | .fun f,_=>.fn f []
 | .clo f K,x=>.clo f K x
def Kd.dec:(K:Kd)->List AV->Option (K.T×List AV)
 | .int k,.int k' n::r=>if k=k' then some (n,r) else none
 | .bool,.bool b::r=>some (b,r)
 | .str,.str s::r=>some (s,r)
 | .slice _,.nil::r=>some ([],r)
 | .slice e,.lst e' xs::r=>if h:e'=e then some (h▸xs,r) else none
 | .pair a b,cs=>(a.dec cs).bind fun x=>(b.dec x.2).bind fun y=>some ((x.1,y.1),y.2)
 | .own t e,.new t' e' xs::r=>if t'=t then (if h:e'=e then some (h▸xs,r) else none) else none
 | .ref K,.ref cs::r=>(K.dec cs).bind fun x=>match x.2 with | []=>some (x.1,r) | _=>none
 | .fun f,.fn f' []::r=>if f'=f then some ((),r) else none
 | .clo f K,.clo f' K' x::r=>if f'=f then (if h:K'=K then some (h▸x,r) else none) else none
 | _,_=>none
def AV.cells:AV->List AV
 | .agg cs=>cs
 | v=>[v]
def Zv:(K:Kd)->K.T->K.T->Bool
 | .int _,a,b=>a==b
 | .bool,a,b=>a==b
 | .str,a,b=>a.toList==b.toList
 | .slice _,_,_=>false
 | .pair a b,x,y=>Zv a x.1 y.1&&Zv b x.2 y.2
 | .own _ _,_,_=>false
 | .ref _,_,_=>false
 | .fun _,_,_=>false
 | .clo _ _,_,_=>false
def Ed (xs:List Int):ByteArray:=⟨(xs.map fun n=>UInt8.ofNat n.toNat).toArray⟩
def AV.fits:Kd->AV->Bool
 | .pair _ _,.agg _=>true
 | .pair _ _,_=>false
 | _,.agg _=>false
 | _,_=>true
def Kd.ofCells (K:Kd) (cs:List AV):Option K.T:=(K.dec cs).bind fun x=>match x.2 with | []=>some x.1 | _=>none
def Kd.of (K:Kd) (v:AV):Option K.T:=if AV.fits K v=true then K.ofCells v.cells else none
inductive AS where
 | var (cs:List AV)
 | rows (t:TypeId) (K:Kd) (xs:List K.T)
 | mrow (t:TypeId) (K:Kd) (xs:List K.T)
 | byt (t:TypeId) (xs:List (Kd.int .u8).T)
 | frz (K:Kd) (xs:List K.T)
 | dead
structure St where
 fr:List (Nat×AV)
 st:List AS
def F7:List (Nat×AV)->Nat->AV
 | [],_=>.undef
 | (s,v)::r,t=>if s=t then v else F7 r t
inductive Cv where
 | t (n:Nat)
 | c (v:AV)
def St.opd (s:St):Cv->AV
 | .t n=>F7 s.fr n
 | .c v=>v
def St.put (s:St) (d:Nat) (v:AV):St:=⟨(d,v)::s.fr,s.st⟩
@[reducible] def RT:List Kd->Type
 | []=>Unit
 | [K]=>K.T
 | K::L::Ks=>K.T×RT (L::Ks)
def CB:(Ks:List Kd)->List AV->Option (RT Ks)
 | [],[]=>some ()
 | [K],[v]=>K.of v
 | K::L::Ks,v::vs=>(K.of v).bind fun x=>(CB (L::Ks) vs).bind fun r=>some (x,r)
 | _,_=>none
def Dw:(Ks:List Kd)->RT Ks->List AV
 | [],_=>[]
 | [K],x=>[K.av x]
 | K::L::Ks,x=>K.av x.1::Dw (L::Ks) x.2
inductive PK where
 | val (K:Kd)
 | bor (K:Kd)
 | mov (K:Kd)
 | ptr (K:Kd)
 | mut (K:Kd)
 | movS (K:Kd)
 | cap (f:Nat) (K:Kd)
 | cap0 (f:Nat)
def Bg:Nat:=1000000
def mq (xs:List Int):Bool:=xs.all fun x=>decide (0<=x)&&decide (x<256)
def Cg (b:ByteArray):List Int:=b.data.toList.map fun u=>(u.toNat:Int)
inductive GB where
 | mv (d:Nat) (x:Cv)
 | nilrow (d:Nat) (t:TypeId) (K:Kd)
 | pick (d:Nat) (c a b:Cv)
 | sc (c:Nat) (want:Bool) (ops:List GB) (d:Nat) (a b:Cv)
 | alloc (d:Nat) (cs:List AV)
 | box (d:Nat) (x:Cv) (own:Bool)
 | build (d:Nat) (zero:List AV) (parts:List (Nat×Nat×Cv))
 | bnew (d:Nat) (zero:List AV) (parts:List (Nat×Nat×Cv))
 | brow (d:Nat) (t:TypeId) (K:Kd) (parts:List Cv)
 | blst (d:Nat) (K:Kd) (parts:List Cv)
 | load (d:Nat) (x:Cv) (n:Option Nat)
 | store (x y:Cv) (m:Nat) (own:Bool)
 | nilc (d:Nat) (x:Cv)
 | bin (d:Nat) (op:BinOp) (x y:Cv)
 | eqs (d:Nat) (neg:Bool) (K:Kd) (x y:Cv)
 | un (d:Nat) (op:UnOp) (x:Cv)
 | cvi (d:Nat) (k:IntKind) (x:Cv)
 | bts (d:Nat) (x:Cv)
 | fld (d:Nat) (x:Cv) (off:Nat)
 | field (d:Nat) (x:Cv) (off:Nat) (n:Option Nat)
 | idx (d:Nat) (z:Nat) (x i:Cv)
 | sidx (d:Nat) (x i:Cv)
 | aidx (d n:Nat) (x i:Cv)
 | sl (d:Nat) (z:Nat) (x:Cv) (lo hi:Option Cv)
 | mk (d:Nat) (t:TypeId) (K:Kd) (n:Cv)
 | fn (d:Nat) (f:Nat) (caps:List Cv)
 | clo (d:Nat) (f:Nat) (K:Kd) (x:Cv)
 | fbox (d:Nat) (x:Cv)
 | min (d:Nat) (x y:Cv)
 | app (d:Nat) (e:TypeId) (K:Kd) (a b:Cv)
 | apz (d:Nat) (e:TypeId) (K:Kd) (a b:Cv)
 | len (d:Nat) (t:Bool) (x:Cv)
 | call (d:Option Nat) (f:Nat) (args:List (Cv×PK)) (res:List Kd)
 | bld (d:Option Nat) (k f t:Nat) (x y:Cv)
 | stb (d:Nat) (t:TypeId) (x:Cv)
 | ext (d:Nat) (x:Cv) (i:Nat)
def St.list {ρ:Type} (s:St) (v:AV) (K:Kd) (kn:List K.T->Option ρ):Option ρ :=
 match v with
 | .nil=>kn []
 | .lst K' xs=>if h:K'=K then kn (h▸xs) else none
 | .row id=>match s.st[id]? with
  | some (.rows _ K' xs)=>if h:K'=K then kn (h▸xs) else none
  | some (.frz K' xs)=>if h:K'=K then kn (h▸xs) else none
  | some (.mrow _ K' xs)=>if h:K'=K then kn (h▸xs) else none
  | some (.byt _ xs)=>if h:Kd.int .u8=K then kn (h▸xs) else none
  | _=>none
 | _=>none
def St.keep (s:St) (v:AV):Option (AV×St) :=
 match v with
 | .int .. | .bool _ | .str _ | .nil | .lst .. | .fn _ [] | .clo .. => some (v,s)
 | .row id=>match s.st[id]? with
  | some (.rows _ K xs)=>some (.lst K xs,⟨s.fr,s.st.set id (.frz K xs)⟩)
  | some (.frz K xs)=>some (.lst K xs,s)
  | _=>none
 | _=>none
def St.keepAll (s:St):List AV->Option (List AV×St)
 | []=>some ([],s)
 | v::vs=>(s.keep v).bind fun x=>(x.2.keepAll vs).bind fun y=>some (x.1::y.1,y.2)
def St.keepAlls (s:St):List AV->Option (List (List AV)×St)
 | []=>some ([],s)
 | v::vs=>(s.keepAll v.cells).bind fun x=>(x.2.keepAlls vs).bind fun y=>some (x.1::y.1,y.2)
def putCells:List AV->Nat->List AV->List AV
 | cs,_,[]=>cs
 | cs,o,v::vs=>putCells (cs.set o v) (o+1) vs
def AV.solid:AV->Bool
 | .int .. | .bool _ | .str _ | .nil | .lst .. | .fn _ [] | .clo .. => true
 | _=>false
def AV.good:AV->Bool
 | .row _=>true
 | v=>v.solid
def AV.firm:AV->Bool
 | .agg cs=>cs.all AV.solid
 | v=>v.solid
def Bx:List Nat->Nat->Bool
 | [],_=>false
 | a::r,i=>if a=i then true else Bx r i
def AV.kill1 (ids:List Nat):AV->AV
 | .row i=>if Bx ids i=true then .undef else .row i
 | .eptr i j o=>if Bx ids i=true then .undef else .eptr i j o
 | .agg _=>.undef
 | .tup _=>.undef
 | v=>v
def AV.kill (ids:List Nat):AV->AV
 | .agg cs=>.agg (cs.map (AV.kill1 ids))
 | .tup vs=>if vs.all AV.firm=true then .tup vs else .undef
 | v=>v.kill1 ids
def O8 (ids:List Nat) (p:Nat×AV):Nat×AV:=(p.1,p.2.kill ids)
def AV.killB (ids:List Nat):AV->AV
 | .row i=>if Bx ids i=true then .was i else .row i
 | v=>v
def AS.kill (ids:List Nat):AS->AS
 | .var cs=>.var (cs.map (AV.killB ids))
 | b=>b
def St.kill (s:St) (ids:List Nat):St:=⟨s.fr.map (O8 ids),s.st.map (AS.kill ids)⟩
def AB1:Option AS->Bool
 | some (.rows _ _ _)=>true
 | some .dead=>true
 | _=>false
def St.intoRow (s:St) (i:Nat) (v:AV):Option (AV×St×List Nat) :=
 match v with
 | .row k=>if k=i then some (.row i,s,[]) else match s.st[k]? with
  | some (.rows t K xs)=>if AB1 s.st[i]? = true then some (.row i,⟨s.fr.map (O8 [i,k]),((s.st.map (AS.kill [i,k])).set i (.rows t K xs)).set k .dead⟩,[i,k]) else none
  | _=>none
 | .nil=>match s.st[i]? with
  | some (.rows t K _)=>some (.row i,⟨s.fr.map (O8 [i]),(s.st.map (AS.kill [i])).set i (.rows t K [])⟩,[i])
  | _=>none
 | _=>none
def St.into (s:St) (own:Bool) (c v:AV):Option (AV×St×List Nat) :=
 match c with
 | .row i=>s.intoRow i v
 | .was i=>s.intoRow i v
 | _=>if own=true then (match v with
   | .row k=>some (.row k,s,[])
   | _=>if v.solid=true then some (v,s,[]) else none)
  else (s.keep v).bind fun x=>some (x.1,x.2,[])
def AV.rowIn (ids:List Nat):AV->Bool
 | .row i=>Bx ids i
 | _=>false
def St.intoAll (s:St) (own:Bool):List AV->List AV->Option (List AV×St×List Nat)
 | [],[]=>some ([],s,[])
 | c::cs,v::vs=>(s.into own c v).bind fun x=>(x.2.1.intoAll own cs (vs.map (AV.kill1 x.2.2))).bind fun y =>
   if x.1.rowIn y.2.2=true then none else some (x.1::y.1,y.2.1,x.2.2++y.2.2)
 | _,_=>none
def St.stash (s:St) (own:Bool) (cs:List AV):Option (List AV×St) :=
 if own=true then (if cs.all AV.good=true then some (cs,s) else none) else s.keepAll cs
def St.behind (s:St) (v:AV):Option (List AV×Nat) :=
 match v with
 | .fptr cs off=>some (cs,off)
 | .ptr id off=>match s.st[id]? with
  | some (.var cs)=>some (cs,off)
  | _=>none
 | .eptr id i off=>match s.st[id]? with
  | some (.rows _ K xs)=>some (K.enc (xs.getD i K.zero),off)
  | some (.frz K xs)=>some (K.enc (xs.getD i K.zero),off)
  | some (.mrow _ K xs)=>some (K.enc (xs.getD i K.zero),off)
  | some (.byt _ xs)=>some ((Kd.int .u8).enc (xs.getD i (Kd.int .u8).zero),off)
  | _=>none
 | _=>none
def part (cs:List AV) (off:Nat):Option Nat->AV
 | some n=>.agg ((cs.drop off).take n)
 | none=>(cs.drop off).headD .undef
def AV.full:AV->Bool
 | .undef | .void | .tup _ | .new .. | .ref _ | .was _ | .self _=>false
 | _=>true
def St.filled (s:St):List AV->List (Nat×Nat×Cv)->Option (List AV)
 | cs,[]=>some cs
 | cs,(off,n,x)::r=>if (s.opd x).full=true/\(s.opd x).cells.length=n/\off+n<=cs.length then s.filled (putCells cs off (s.opd x).cells) r else none
def St.storeAt (s:St) (own:Bool) (p:AV) (vs:List AV):Option St :=
 match p with
 | .ptr id off=>match s.st[id]? with
  | some (.var cs)=>if off+vs.length<=cs.length then (s.intoAll own ((cs.drop off).take vs.length) vs).bind fun y=>match y.2.1.st[id]? with
    | some (.var cs')=>some ⟨y.2.1.fr,y.2.1.st.set id (.var (putCells cs' off y.1))⟩
    | _=>none
   else none
  | _=>none
 | .eptr id i off=>(s.keepAll vs).bind fun z=>match z.2.st[id]? with
  | some (.rows t K xs)=>if off+z.1.length<=K.sz then
    (K.dec (putCells (K.enc (xs.getD i K.zero)) off z.1)).bind fun x=>some ⟨z.2.fr,z.2.st.set id (.rows t K (xs.set i x.1))⟩
   else none
  | some (.mrow t K xs)=>if off+z.1.length<=K.sz then
    (K.dec (putCells (K.enc (xs.getD i K.zero)) off z.1)).bind fun x=>some ⟨z.2.fr,z.2.st.set id (.mrow t K (xs.set i x.1))⟩
   else none
  | some (.byt t xs)=>if off=0 then (match z.1 with
   | [.int .u8 c]=>some ⟨z.2.fr,z.2.st.set id (.byt t (xs.set i c))⟩
   | _=>none) else none
  | _=>none
 | _=>none
def tT (k:IntKind) (a b:Int):Int:=k.wrap (BitVec.ofInt k.bits a &&& BitVec.ofInt k.bits b).toNat
def wK (k:IntKind) (a b:Int):Int:=k.wrap (BitVec.ofInt k.bits a ||| BitVec.ofInt k.bits b).toNat
def tU (k:IntKind) (a b:Int):Int:=k.wrap (BitVec.ofInt k.bits a ^^^ BitVec.ofInt k.bits b).toNat
def mr {ρ:Type} (op:BinOp) (x y:AV) (kn:AV->Option ρ):Option ρ :=
 match x,y with
 | .int k a,.int k' b =>
  match op with
  | .shl=>if b<0 then none else kn (.int k (k.wrap (a*2^(min b.toNat k.bits))))
  | .shr=>if b<0 then none else kn (.int k (a.fdiv (2^(min b.toNat k.bits))))
  | _=>if k=k' then
   match op with
   | .add=>kn (.int k (k.wrap (a+b)))
   | .sub=>kn (.int k (k.wrap (a-b)))
   | .mul=>kn (.int k (k.wrap (a*b)))
   | .quo=>if b=0 then none else kn (.int k (k.wrap (a.tdiv b)))
   | .rem=>if b=0 then none else kn (.int k (a.tmod b))
   | .and=>kn (.int k (tT k a b))
   | .or=>kn (.int k (wK k a b))
   | .xor=>kn (.int k (tU k a b))
   | .eql=>kn (.bool (a==b))
   | .neq=>kn (.bool (a != b))
   | .lss=>kn (.bool (a<b))
   | .leq=>kn (.bool (a<=b))
   | .gtr=>kn (.bool (a>b))
   | .geq=>kn (.bool (a>=b))
   | _=>none
  else none
 | .str a,.str b =>
  match op with
  | .add=>if a.size+b.size<=1099511627776 then kn (.str (a++b)) else none
  | .eql=>kn (.bool (a.toList==b.toList))
  | .neq=>kn (.bool (!(a.toList==b.toList)))
  | .lss=>kn (.bool (Op.bytesLess a.toList b.toList))
  | .leq=>kn (.bool (Op.bytesLess a.toList b.toList||a.toList==b.toList))
  | .gtr=>kn (.bool (!(Op.bytesLess a.toList b.toList||a.toList==b.toList)))
  | .geq=>kn (.bool (!(Op.bytesLess a.toList b.toList)))
  | _=>none
 | _,_=>none
def xy {ρ:Type} (op:UnOp) (x:AV) (kn:AV->Option ρ):Option ρ :=
 match op,x with
 | .not,.bool b=>kn (.bool (!b))
 | .neg,.int k n=>kn (.int k (k.wrap (0-n)))
 | _,_=>none
def Kd.ofs (K:Kd):List (List AV)->Option (List K.T)
 | []=>some []
 | cs::vs=>(K.dec cs).bind fun x=>match x.2 with | []=>(K.ofs vs).bind fun xs=>some (x.1::xs) | _=>none
def AV.isNew:AV->Bool
 | .new .. | .ref _=>true
 | _=>false
def AO:List AV->Nat
 | []=>0
 | a::r=>if a.isNew=true then AO r+1 else AO r
def BQ:Nat->List AV->List AV
 | _,[]=>[]
 | k,a::r=>match a with
  | .new .. => .row k::BQ (k+1) r
  | .ref _=>.ptr k 0::BQ (k+1) r
  | a=>a::BQ k r
def Aw:List AV->List AS
 | []=>[]
 | a::r=>match a with
  | .new t K xs=>.rows t K xs::Aw r
  | .ref cs=>.var cs::Aw r
  | _=>Aw r
def gI (k:Nat):AV->AV
 | .agg cs=>.agg (BQ k cs)
 | v=>(BQ k [v]).headD .undef
def DW:Nat->List AV->List AV
 | _,[]=>[]
 | k,v::r=>gI k v::DW (k+AO v.cells) r
def AV.cellsO:AV->List AV
 | .new .. => []
 | v=>v.cells
def ut (k:Nat):AV->AS
 | .new t K xs=>.mrow t K xs
 | v=>.var (BQ k v.cells)
def O9:Nat->List AV->List AS
 | _,[]=>[]
 | k,v::r=>ut k v::O9 (k+AO v.cellsO) r
def Vd:List AV->List AS
 | []=>[]
 | v::r=>Aw v.cellsO++Vd r
def gJ:List AV->List AS
 | []=>[]
 | v::r=>Aw v.cells++gJ r
def Bd (outs vs:List AV):List AS:=O9 outs.length outs++(Vd outs++gJ vs)
def Fe (outs:List AV):Nat:=outs.length+(Vd outs).length
def Kd.leaves:Kd->List Kd
 | .pair a b=>a.leaves++b.leaves
 | K=>[K]
def Kd.isOwn:Kd->Bool
 | .own _ _=>true
 | _=>false
def Kd.owns (K:Kd):List Kd:=K.leaves.filter Kd.isOwn
def mt:List Kd->Nat->List (Nat×Kd)
 | [],_=>[]
 | k::ks,j=>(j,k)::mt ks (j+1)
def nN (st:List AS):List AV->Option (List AV×List Nat)
 | []=>some ([],[])
 | v::vs=>match v with
  | .row id=>match st[id]? with
   | some (.rows _ e xs)=>(nN st vs).bind fun r=>some (.lst e xs::r.1,id::r.2)
   | some (.frz e xs)=>(nN st vs).bind fun r=>some (.lst e xs::r.1,r.2)
   | _=>none
  | v=>if v.solid=true then (nN st vs).bind fun r=>some (v::r.1,r.2) else none
def AV.norm (k:Kd) (v:AV):Option AV :=
 match v with
 | .nil=>match k with
  | .slice e=>some (.lst e [])
  | _=>none
 | v=>if v.solid=true then some v else none
def cj (st:List AS):Nat->List Kd->List AV->Option (List AV×List (Nat×Kd))
 | _,[],[]=>some ([],[])
 | j,k::ks,v::vs=>match v with
  | .row id=>match st[id]? with
   | some (.rows t e _)=>if Kd.own t e=k then (cj st (j+1) ks vs).bind fun r=>some (.row j::r.1,(id,k)::r.2) else none
   | some (.mrow t e _)=>if Kd.own t e=k then (cj st (j+1) ks vs).bind fun r=>some (.row j::r.1,(id,k)::r.2) else none
   | _=>none
  | v=>(v.norm k).bind fun a=>(cj st j ks vs).bind fun r=>some (a::r.1,r.2)
 | _,_,_=>none
def AV.like (v:AV) (cs:List AV):AV :=
 match v with
 | .agg _=>.agg cs
 | _=>cs.headD .undef
structure uu where
 args:List AV
 ptrs:List (Nat×Kd)
 movs:List Nat
 bors:List Nat
def St.settle (s:St):List Kd->List AV->Option St
 | [],[]=>some s
 | k::ks,v::vs=>match v with
  | .row i=>match k with
   | .own _ _=>s.settle ks vs
   | _=>(s.keep (.row i)).bind fun x=>x.2.settle ks vs
  | _=>s.settle ks vs
 | _,_=>none
def Ju (st:List AS):List Kd->List AV->Option (List AV×List Nat)
 | [],[]=>some ([],[])
 | k::ks,v::vs=>match v with
  | .row i=>match k with
   | .own _ _=>match st[i]? with
    | some (.rows t e xs)=>(Ju st ks vs).bind fun y=>some (.new t e xs::y.1,i::y.2)
    | _=>none
   | .slice e'=>match st[i]? with
    | some (.frz e xs)=>if e=e' then (Ju st ks vs).bind fun y=>some (.lst e xs::y.1,y.2) else none
    | _=>none
   | _=>none
  | v=>(v.norm k).bind fun a=>(Ju st ks vs).bind fun y=>some (a::y.1,y.2)
 | _,_=>none
def St.args (s:St):List (Cv×PK)->Nat->Option (uu×St)
 | [],_=>some (⟨[],[],[],[]⟩,s)
 | (x,.val K)::r,j=>if AV.fits K (s.opd x)=true then (s.keepAll (s.opd x).cells).bind fun y=>(K.ofCells y.1).bind fun z=>(y.2.args r j).bind fun q =>
   some (⟨K.av z::q.1.args,q.1.ptrs,q.1.movs,q.1.bors⟩,q.2) else none
 | (x,.bor K)::r,j=>match s.opd x with
  | .row id=>match s.st[id]? with
   | some (.rows _ e xs)=>if Kd.slice e=K then (s.args r j).bind fun q=>some (⟨.lst e xs::q.1.args,q.1.ptrs,q.1.movs,id::q.1.bors⟩,q.2) else none
   | some (.frz e xs)=>if Kd.slice e=K then (s.args r j).bind fun q=>some (⟨.lst e xs::q.1.args,q.1.ptrs,q.1.movs,q.1.bors⟩,q.2) else none
   | _=>none
  | .agg cs=>if AV.fits K (.agg cs)=true then (nN s.st cs).bind fun y=>(K.ofCells y.1).bind fun z=>(s.args r j).bind fun q=>some (⟨K.av z::q.1.args,q.1.ptrs,q.1.movs,y.2++q.1.bors⟩,q.2) else none
  | v=>if v.solid=true then (K.ofCells [v]).bind fun z=>(s.args r j).bind fun q=>some (⟨K.av z::q.1.args,q.1.ptrs,q.1.movs,q.1.bors⟩,q.2) else none
 | (x,.mov K)::r,j=>match s.opd x with
  | .row id=>match s.st[id]? with
   | some (.rows t e xs)=>if Kd.own t e=K then (s.args r j).bind fun q=>some (⟨.new t e xs::q.1.args,q.1.ptrs,id::q.1.movs,q.1.bors⟩,q.2) else none
   | _=>none
  | _=>none
 | (x,.movS K)::r,j=>match s.opd x with
  | .agg cs=>(Ju s.st K.leaves cs).bind fun y=>(s.args r j).bind fun q=>some (⟨.agg y.1::q.1.args,q.1.ptrs,y.2++q.1.movs,q.1.bors⟩,q.2)
  | _=>none
 | (x,.ptr K)::r,j=>match s.opd x with
  | .ptr id 0=>match s.st[id]? with
   | some (.var cs)=>(s.settle K.leaves cs).bind fun s1=>(s1.args r (j+1)).bind fun q=>some (⟨.ptr j 0::q.1.args,(id,K)::q.1.ptrs,q.1.movs,q.1.bors⟩,q.2)
   | _=>none
  | _=>none
 | (x,.mut K)::r,j=>(cj s.st j K.leaves (s.opd x).cells).bind fun y=>(s.args r (j+y.2.length)).bind fun q =>
   some (⟨(s.opd x).like y.1::q.1.args,y.2++q.1.ptrs,q.1.movs,q.1.bors⟩,q.2)
 | (x,.cap f K)::r,j=>match s.opd x with
  | .clo f' K' z=>if f'=f then (if K'=K then (s.args r j).bind fun q=>some (⟨.fptr (K'.enc z) 0::q.1.args,q.1.ptrs,q.1.movs,q.1.bors⟩,q.2) else none) else none
  | _=>none
 | (x,.cap0 f)::r,j=>match s.opd x with
  | .fn f' []=>if f'=f then s.args r j else none
  | _=>none
def Lz:List Kd->List AV->Option (List AV)
 | [],[]=>some []
 | k::ks,v::vs=>(v.norm k).bind fun a=>(Lz ks vs).bind fun r=>some (a::r)
 | _,_=>none
def L5 (st:List AS):List (Nat×Kd)->Option (List AV×List Nat)
 | []=>some ([],[])
 | (b,K)::bs=>match st[b]? with
  | some (.var cs)=>if K.isOwn=true then none else (Ju st K.leaves cs).bind fun y=>(K.ofCells y.1).bind fun x=>(L5 st bs).bind fun r=>some (K.av x::r.1,y.2++r.2)
  | some (.rows t e xs)=>if Kd.own t e=K then (L5 st bs).bind fun r=>some (.new t e xs::r.1,r.2) else none
  | some (.mrow t e xs)=>if Kd.own t e=K then (L5 st bs).bind fun r=>some (.new t e xs::r.1,r.2) else none
  | _=>none
def tV:List Nat->Bool
 | []=>true
 | p::r=>!(Bx r p)&&tV r
def tW:List Nat->List Nat->Bool
 | [],_=>true
 | p::r,l=>!(Bx l p)&&tW r l
def gK (st:List AS):List Nat->Bool
 | []=>true
 | i::r=>(match st[i]? with | some (.rows _ _ _)=>true | _=>false)&&gK st r
def VK:List Nat->Nat->Option Nat
 | [],_=>none
 | a::r,i=>if a=i then some 0 else (VK r i).map (· + 1)
def AV.ren (f:Nat->Nat):AV->AV
 | .row k=>.row (f k)
 | .ptr k o=>.ptr (f k) o
 | .eptr k i o=>.eptr (f k) i o
 | v=>v
def AV.renV (f:Nat->Nat):AV->AV
 | .agg cs=>.agg (cs.map (AV.ren f))
 | v=>v.ren f
def AS.ren (f:Nat->Nat):AS->AS
 | .var cs=>.var (cs.map (AV.ren f))
 | b=>b
def Lt (back:List Nat) (n k:Nat):Nat:=if k<back.length then back.getD k 0 else n+(k-back.length)
def pF:AS->AS->AS
 | .rows _ _ _,.mrow t K xs=>.rows t K xs
 | _,e=>e
def S7 (back gone:List Nat) (nv n:Nat) (est:List AS):Nat->List AS->List AS
 | _,[]=>[]
 | i,b::r=>(if Bx gone i=true then .dead else match VK back i with
   | some k=>(pF b (est.getD k .dead)).ren (Lt back n)
   | none=>b.kill (back.drop nv++gone))::S7 back gone nv n est (i+1) r
def Qc (st:List AS) (nv:Nat) (back gone:List Nat) (est:List AS):List AS :=
 S7 back gone nv st.length est 0 st++(est.drop back.length).map (AS.ren (Lt back st.length))
def Kd.flat:Kd->Bool
 | .slice _ | .own _ _ | .ref _ | .fun _ | .clo _ _=>false
 | .pair a b=>a.flat&&b.flat
 | _=>true
def AV.flat:AV->Bool
 | .int .. | .bool _ | .str _ | .nil | .row _ | .was _ | .ptr .. => true
 | _=>false
def AV.flatV:AV->Bool
 | .agg cs=>cs.all AV.flat
 | v=>v.flat
def AS.flat:AS->Bool
 | .var cs=>cs.all AV.flat
 | .rows _ K _=>K.flat
 | .mrow _ K _=>K.flat
 | _=>false
def ABy:List AV->AV
 | [v]=>v
 | vs=>.tup vs
mutual
def GB.dsts:GB->List Nat
 | .mv d _ | .nilrow d _ _ | .pick d _ _ _ | .alloc d _ | .box d _ _ | .build d _ _ | .bnew d _ _ | .brow d _ _ _ | .blst d _ _ | .load d _ _ | .nilc d _ | .bin d _ _ _
 | .eqs d _ _ _ _ | .un d _ _ | .cvi d _ _ | .bts d _ | .fld d _ _ | .field d _ _ _ | .idx d _ _ _ | .sidx d _ _ | .aidx d _ _ _ | .sl d _ _ _ _ | .mk d _ _ _ | .fn d _ _ | .clo d _ _ _ | .fbox d _ | .min d _ _
 | .app d _ _ _ _ | .apz d _ _ _ _ | .len d _ _ | .ext d _ _ | .stb d _ _=>[d]
 | .call d _ _ _=>d.toList
 | .bld d _ _ _ _ _=>d.toList
 | .store _ _ _ _=>[]
 | .sc _ _ ops d _ _=>Ff ops++[d]
def Ff:List GB->List Nat
 | []=>[]
 | o::os=>o.dsts++Ff os
end
def St.forget (s:St) (ds:List Nat):St:=⟨ds.map (fun t=>(t,.undef))++s.fr,s.st⟩
def uv (d:Option Nat) (v:AV) (fr:List (Nat×AV)):List (Nat×AV):=match d with | some d=>(d,v)::fr | none=>fr
def GB.isVal:GB->Bool
 | .mv .. | .pick .. | .load .. | .nilc .. | .bin .. | .eqs .. | .un .. | .cvi .. | .fld .. | .field .. | .idx .. | .sidx .. | .aidx .. | .sl .. | .fn .. | .clo .. | .min .. | .len .. | .ext .. | .build .. => true
 | _=>false
def GB.touch (s:St):GB->List Nat
 | .store x _ _ _=>match s.opd x with
  | .ptr id _=>[id]
  | .eptr id _ _=>[id]
  | _=>[]
 | .app _ _ _ a _=>match s.opd a with
  | .row id=>[id]
  | _=>[]
 | .apz _ _ _ a _=>match s.opd a with
  | .row id=>[id]
  | _=>[]
 | .call _ _ args _=>match s.args args 0 with
  | some q=>match L5 q.2.st q.1.ptrs with
   | some bx=>q.1.ptrs.map (·.1)++bx.2++q.1.movs
   | none=>[]
  | none=>[]
 | .bld _ _ _ _ x _=>match s.opd x with
  | .ptr id _=>match s.st[id]? with
   | some (.var [.self _,.row j])=>[id,j]
   | _=>[]
  | _=>[]
 | _=>[]
def AAm (k:Nat) (y:AV):Option (List Int) :=
 match y with
 | .int .u8 c=>if k=0 then some [c] else none
 | .str b=>if k=1 then some (Cg b) else none
 | _=>none
abbrev GM:=Nat->List AV->List AV->Option (List AV)
mutual
def EQ {ρ:Type} (cal:GM) (kn:St->Option ρ) (s:St):GB->Option ρ
 | .mv d x=>kn (s.put d (s.opd x))
 | .nilrow d t K=>kn ⟨(d,.row s.st.length)::s.fr,s.st++[.rows t K []]⟩
 | .pick d c a b=>match s.opd c with
  | .bool t=>if t=true then kn (s.put d (s.opd a)) else kn (s.put d (s.opd b))
  | _=>none
 | .sc c want ops d a b=>match F7 s.fr c with
  | .bool t =>
   if t=want then j7 cal (fun s'=>kn (s'.put d (if want then s'.opd a else s'.opd b))) s ops
   else kn ((s.forget (Ff ops)).put d (if want then (s.forget (Ff ops)).opd b else (s.forget (Ff ops)).opd a))
  | _=>none
 | .alloc d cs=>kn ⟨(d,.ptr (s.st.length+AO cs) 0)::s.fr,s.st++Aw cs++[.var (BQ s.st.length cs)]⟩
 | .box d x own=>(s.stash own (s.opd x).cells).bind fun y=>kn ⟨(d,.ptr y.2.st.length 0)::y.2.fr,y.2.st++[.var y.1]⟩
 | .build d zero parts=>(s.filled zero parts).bind fun cs=>kn (s.put d (.agg cs))
 | .bnew d zero parts=>(s.filled (BQ s.st.length zero) parts).bind fun cs=>kn ⟨(d,.agg cs)::s.fr,s.st++Aw zero⟩
 | .brow d t K parts=>(s.keepAlls (parts.map s.opd)).bind fun y=>(K.ofs y.1).bind fun xs=>kn ⟨(d,.row y.2.st.length)::y.2.fr,y.2.st++[.rows t K xs]⟩
 | .blst d K parts=>(s.keepAlls (parts.map s.opd)).bind fun y=>(K.ofs y.1).bind fun xs=>kn (y.2.put d (.lst K xs))
 | .load d x n=>(s.behind (s.opd x)).bind fun y=>if y.2+n.getD 1<=y.1.length then kn (s.put d (part y.1 y.2 n)) else none
 | .store x y m own=>if (s.opd y).cells.length=m then (s.storeAt own (s.opd x) (s.opd y).cells).bind kn else none
 | .nilc d x=>match s.opd x with
  | .ptr id off=>kn (s.put d (.ptr id off))
  | .eptr id i off=>kn (s.put d (.eptr id i off))
  | .fptr cs off=>kn (s.put d (.fptr cs off))
  | _=>none
 | .bin d op x y=>mr op (s.opd x) (s.opd y) fun v=>kn (s.put d v)
 | .eqs d neg K x y=>(K.of (s.opd x)).bind fun a=>(K.of (s.opd y)).bind fun b=>kn (s.put d (.bool (neg != Zv K a b)))
 | .un d op x=>xy op (s.opd x) fun v=>kn (s.put d v)
 | .cvi d k x=>match s.opd x with
  | .int _ n=>kn (s.put d (.int k (k.wrap n)))
  | _=>none
 | .bts d x=>s.list (s.opd x) (.int .u8) fun xs=>kn (s.put d (.str (Ed xs)))
 | .fld d x off=>match s.opd x with
  | .ptr id o=>kn (s.put d (.ptr id (o+off)))
  | .eptr id i o=>kn (s.put d (.eptr id i (o+off)))
  | .fptr cs o=>kn (s.put d (.fptr cs (o+off)))
  | _=>none
 | .field d x off n=>match s.opd x with
  | .agg cs=>if off+n.getD 1<=cs.length then kn (s.put d (part cs off n)) else none
  | _=>none
 | .idx d z x i=>match s.opd x,s.opd i with
  | .lst K xs,.int _ i=>if K.sz=z then if 0<=i then (if i<xs.length then kn (s.put d (.fptr (K.enc (xs.getD i.toNat K.zero)) 0)) else none) else none else none
  | .row id,.int _ i=>match s.st[id]? with
   | some (.rows _ K xs)=>if K.sz=z then if 0<=i then (if i<xs.length then kn (s.put d (.eptr id i.toNat 0)) else none) else none else none
   | some (.frz K xs)=>if K.sz=z then if 0<=i then (if i<xs.length then kn (s.put d (.eptr id i.toNat 0)) else none) else none else none
   | some (.mrow _ K xs)=>if K.sz=z then if 0<=i then (if i<xs.length then kn (s.put d (.eptr id i.toNat 0)) else none) else none else none
   | some (.byt _ xs)=>if (Kd.int .u8).sz=z then if 0<=i then (if i<xs.length then kn (s.put d (.eptr id i.toNat 0)) else none) else none else none
   | _=>none
  | _,_=>none
 | .sidx d x i=>match s.opd x,s.opd i with
  | .str b,.int _ i=>if 0<=i then (if i<b.size then kn (s.put d (.int .u8 (b.data.toList.getD i.toNat 0).toNat)) else none) else none
  | _,_=>none
 | .aidx d n x i=>match s.opd x,s.opd i with
  | .agg cs,.int _ i=>((Kd.int .i64).ofs (cs.map fun c=>[c])).bind fun xs=>if xs.length=n then (if 0<=i then (if i<(n:Int) then kn (s.put d (.int .i64 (xs.getD i.toNat 0))) else none) else none) else none
  | _,_=>none
 | .sl d z x lo hi=>match s.opd x,(match lo with | none=>AV.int .i64 0 | some l=>s.opd l) with
  | .str b,.int _ l=>if z=0 then
   match (match hi with | none=>AV.int .i64 b.size | some h=>s.opd h) with
   | .int _ h=>if 0<=l then (if l<=h then (if h<=b.size then kn (s.put d (.str (b.extract l.toNat h.toNat))) else none) else none) else none
   | _=>none
   else none
  | .lst K xs,.int _ l=>if K.sz=z then
   match (match hi with | none=>AV.int .i64 xs.length | some h=>s.opd h) with
   | .int _ h=>if 0<=l then (if l<=h then (if h<=xs.length then kn (s.put d (.lst K ((xs.take h.toNat).drop l.toNat))) else none) else none) else none
   | _=>none
   else none
  | _,_=>none
 | .mk d t K n=>match s.opd n with
  | .int _ n=>if 0<=n then (if n<=68719476736 then kn ⟨(d,.row s.st.length)::s.fr,s.st++[.rows t K (List.replicate n.toNat K.zero)]⟩ else none) else none
  | _=>none
 | .fn d f caps=>kn (s.put d (.fn f (caps.map s.opd)))
 | .clo d f K x=>match s.opd x with
  | .fptr cs 0=>(K.ofCells cs).bind fun z=>kn (s.put d (.clo f K z))
  | _=>none
 | .fbox d x=>(s.keepAll (s.opd x).cells).bind fun y=>kn (y.2.put d (.fptr y.1 0))
 | .min d x y=>match s.opd x,s.opd y with
  | .int k a,.int k' b=>if k=k' then kn (s.put d (.int k (min a b))) else none
  | _,_=>none
 | .app d e K a b=>match s.opd a with
  | .row id=>match s.st[id]? with
   | some (.rows t K' xs)=>if h:K'=K then if t=e then
     s.list (s.opd b) K fun ys=>if xs.length+ys.length<=68719476736 then kn ⟨(d,.row id)::s.fr.map (O8 [id]),(s.st.map (AS.kill [id])).set id (.rows t K ((h▸xs)++ys))⟩ else none
    else none else none
   | _=>none
  | _=>none
 | .apz d e K a b=>match s.opd a with
  | .row id=>match s.st[id]? with
   | some (.rows t K' xs)=>if h:K'=K then if t=e then
     s.list (s.opd b) K fun ys=>if xs.length+ys.length<=68719476736 then kn ⟨(d,.lst K ((h▸xs)++ys))::s.fr.map (O8 [id]),(s.st.map (AS.kill [id])).set id (.frz K ((h▸xs)++ys))⟩ else none
    else none else none
   | _=>none
  | _=>none
 | .len d t x=>match s.opd x with
  | .str b=>if t=true then kn (s.put d (.int .i64 b.size)) else none
  | .nil=>if t=true then none else kn (s.put d (.int .i64 0))
  | .lst _ xs=>if t=true then none else kn (s.put d (.int .i64 xs.length))
  | .row id=>if t=true then none else match s.st[id]? with
   | some (.rows _ _ xs)=>kn (s.put d (.int .i64 xs.length))
   | some (.frz _ xs)=>kn (s.put d (.int .i64 xs.length))
   | some (.mrow _ _ xs)=>kn (s.put d (.int .i64 xs.length))
   | some (.byt _ xs)=>kn (s.put d (.int .i64 xs.length))
   | _=>none
  | _=>none
 | .call d f args res=>(s.args args 0).bind fun q=>(L5 q.2.st q.1.ptrs).bind fun bx =>
   if (tV (q.1.ptrs.map (·.1)++bx.2++q.1.movs)&&tW q.1.bors (q.1.ptrs.map (·.1)++bx.2++q.1.movs)&&gK q.2.st (q.1.movs++q.1.bors))=true then
    ((cal f q.1.args bx.1).bind (CB (res++q.1.ptrs.map (·.2)))).bind fun y =>
     if (q.1.bors.isEmpty||((Bd ((Dw _ y).drop res.length) ((Dw _ y).take res.length)).all AS.flat
       && (DW (Fe ((Dw _ y).drop res.length)) ((Dw _ y).take res.length)).all AV.flatV))=true then
      kn ⟨uv d (ABy ((DW (Fe ((Dw _ y).drop res.length)) ((Dw _ y).take res.length)).map (AV.renV (Lt (q.1.ptrs.map (·.1)++bx.2) q.2.st.length))))
        (q.2.fr.map (O8 (bx.2++q.1.movs))),
       Qc q.2.st q.1.ptrs.length (q.1.ptrs.map (·.1)++bx.2) q.1.movs (Bd ((Dw _ y).drop res.length) ((Dw _ y).take res.length))⟩
     else none
   else none
 | .bld d k f t x y=>match s.opd x with
  | .ptr id 0=>match s.st[id]? with
   | some (.var [.self T,.row j])=>match s.st[j]? with
    | some (.rows t' (.int .u8) xs)=>if t'=t then
      ((cal (Bg+f) [.int .i64 k,.int .i64 t,.int .i64 T] []).bind (CB [])).bind fun _ =>
       if k=2 then (if mq xs=true then kn ⟨uv d (.str (Ed xs)) (s.fr.map (O8 [j])),(s.st.map (AS.kill [j])).set j .dead⟩ else none)
       else (AAm k (s.opd y)).bind fun ys=>if xs.length+ys.length<=68719476736 then
        kn ⟨uv d .undef (s.fr.map (O8 [j])),((s.st.map (AS.kill [j])).set j (.rows t (.int .u8) (xs++ys))).set id (.var [.self T,.row j])⟩ else none
     else none
    | _=>none
   | _=>none
  | _=>none
 | .stb d t x=>match s.opd x with
  | .str b=>kn ⟨(d,.row s.st.length)::s.fr,s.st++[.byt t (Cg b)]⟩
  | _=>none
 | .ext d x i=>match s.opd x with
  | .tup vs=>if i<vs.length then kn (s.put d (vs.getD i .undef)) else none
  | _=>none
def j7 {ρ:Type} (cal:GM) (kn:St->Option ρ) (s:St):List GB->Option ρ
 | []=>kn s
 | o::os=>EQ cal (fun s'=>j7 cal kn s' os) s o
end
inductive DT where
 | done
 | take (i:Nat) (g:Option (Nat×Bool)) (ao:GB) (r:DT)
 | skip (i:Nat) (g:Nat×Bool) (d:Option Nat) (r:DT)
 | only (i:Nat) (g:Option (Nat×Bool)) (ao:GB) (e:Bool) (fl:List (Nat×GB)) (r:DT)
 | test (c:Nat) (a b:DT)
 | fork (i:Nat) (ai:GB) (ri:DT) (j:Nat) (aj:GB) (rj:DT)
def DT.tk:Nat->List GB->DT->DT
 | n+1,a::l,r=>tk n l (.take n none a r)
 | _,_,r=>r
def DT.tg (c:Nat) (b:Bool):Nat->List GB->DT->DT
 | n+1,a::l,r=>tg c b n l (.take n (some (c,b)) a r)
 | _,_,r=>r
def DT.sk (c:Nat) (b:Bool):Nat->Nat->Nat->DT->DT
 | k+1,n+1,d+1,r=>sk c b k n d (.skip n (c,b) (some d) r)
 | _,_,_,r=>r
def GB.m (d x:Nat):GB:=.mv d (.t x)
def GB.l (d x:Nat):GB:=.load d (.t x) none
def GB.ls (d x n:Nat):GB:=.load d (.t x) (some n)
def GB.f (d x n:Nat):GB:=.fld d (.t x) n
def GB.n (d x:Nat):GB:=.nilc d (.t x)
def GB.b (d:Nat) (op:BinOp) (x y:Nat):GB:=.bin d op (.t x) (.t y)
def GB.cl (d:Nat) (xs:List Nat) (q:Nat×List PK×List Kd):GB:=.call (some d) q.1 (List.zipWith (fun x k=>(Cv.t x,k)) xs q.2.1) q.2.2
def GB.cx (d:Option Nat) (xs:List Cv) (q:Nat×List PK×List Kd):GB:=.call d q.1 (List.zipWith (fun x k=>(x,k)) xs q.2.1) q.2.2
def GB.al (d:Nat) (K:Kd):GB:=.alloc d (K.enc K.zero)
def GB.bu (d:Nat) (K:Kd) (parts:List (Nat×Nat×Cv)):GB:=.build d (K.enc K.zero) parts
def Cv.i (n:Int):Cv:=.c (.int .i64 n)
def rgs (n:Nat):List (List Nat):=(List.range n).map List.range
def AAn (ex:List (Nat×List Nat)) (i:Nat):List Nat:=match ex.find? (fun (e:Nat×List Nat)=>e.1==i) with
 | some e=>e.2
 | none=>[i-1]
def Fd (n:Nat) (ex:List (Nat×List Nat)):List (List Nat) :=
 (List.range n).foldl (fun (acc:List (List Nat)) (i:Nat)=>acc++[(List.range i).filter fun k=>(AAn ex i).any fun p=>p==k||Bx (acc.getD p []) k]) []
noncomputable def uw {ρ:Type} (a b:Option ρ):Option ρ:=@ite _ (a=b) (Classical.propDecidable _) a none
theorem j8 {ρ:Type} {a b:Option ρ} {r:ρ}:uw a b=some r↔a=some r/\b=some r:=by
 unfold uw
 split
 ·rename_i e; subst e; exact Iff.intro (fun h=>And.intro h h) (fun h=>And.left h)
 ·rename_i e; exact Iff.intro (fun h=>by cases h) (fun h=>absurd (h.1.trans h.2.symm) e)
theorem j9 {ρ:Type} {a:Option ρ}:uw a a=a:=if_pos rfl
def gOk (s:St):Option (Nat×Bool)->Bool
 | none=>true
 | some g=>match F7 s.fr g.1 with
  | .bool t=>t==g.2
  | _=>false
def AB2 (s:St) (g:Nat×Bool):Bool :=
 match F7 s.fr g.1 with
 | .bool t=>t != g.2
 | .void=>true
 | _=>false
def AV.clear (tch:List Nat):AV->Bool
 | .ptr id _=>!Bx tch id
 | .eptr id _ _=>!Bx tch id
 | .fptr _ _=>true
 | _=>false
def GB.notSelf:GB->Bool
 | .load d (.t x) _=>!(d==x)
 | _=>true
def XW (anc tch:List Nat) (s:St):List (Nat×Nat)->Bool
 | []=>true
 | p::r=>(Bx anc p.1||(F7 s.fr p.2).clear tch)&&XW anc tch s r
def IM (ds:List Nat):List (Nat×Nat)->Bool
 | []=>true
 | p::r=>!Bx ds p.2&&IM ds r
def gL (i:Nat) (ao:GB) (T:List (Nat×Nat)):List (Nat×Nat) :=
 match ao with
 | .load _ (.t x) _=>(i,x)::T
 | _=>T
def Hg (anc:List Nat):List (Nat×Nat)->List (Nat×Nat)
 | []=>[]
 | p::r=>if Bx anc p.1=true then Hg anc r else p::Hg anc r
def GB.isFloat:GB->Bool
 | .alloc _ _ | .brow .. | .blst .. => true
 | _=>false
def GB.floatOk (s:St):GB->Bool
 | .alloc _ _=>true
 | .brow _ _ K ps=>(ps.map s.opd).all AV.firm&&(K.ofs ((ps.map s.opd).map AV.cells)).isSome
 | .blst _ K ps=>(ps.map s.opd).all AV.firm&&(K.ofs ((ps.map s.opd).map AV.cells)).isSome
 | _=>false
def gM (s:St):List Nat->Bool
 | []=>true
 | d::r=>(match F7 s.fr d with | .undef=>true | _=>false)&&gM s r
def gN (s:St) (T:List (Nat×Nat)):List (Nat×GB)->Bool
 | []=>true
 | f::r=>f.2.floatOk s&&gM s f.2.dsts&&IM f.2.dsts T&&gN s T r
noncomputable def dK {ρ:Type} (cal:GM) (anc:List (List Nat)) (kn:St->Option ρ):DT->List (Nat×Nat)->St->Option ρ
 | .done,_,s=>kn s
 | .take i g ao r,T,s=>if (gOk s g&&IM ao.dsts T&&ao.notSelf)=true then EQ cal (fun s'=>dK cal anc kn r (gL i ao T) s') s ao else none
 | .skip _ g d r,T,s=>if (AB2 s g&&IM d.toList T)=true then dK cal anc kn r T ⟨uv d .void s.fr,s.st⟩ else none
 | .only i g ao e fl r,T,s=>if (gOk s g&&IM ao.dsts T&&XW (anc.getD i []) (ao.touch s) s T&&gN s T fl&&(fl.all fun f=>XW (anc.getD f.1 []) [] s T)&&(!e||ao.floatOk s))=true then EQ cal (fun s'=>dK cal anc kn r (Hg (anc.getD i []) T) s') s ao else none
 | .test c a b,T,s=>match F7 s.fr c with
  | .bool t=>if t=true then dK cal anc kn a T (s.put c (.bool true)) else dK cal anc kn b T (s.put c (.bool false))
  | _=>none
 | .fork i ai ri j aj rj,T,s=>uw
  (if (IM ai.dsts T&&XW (anc.getD i []) (ai.touch s) s T)=true then EQ cal (fun s'=>dK cal anc kn ri (Hg (anc.getD i []) T) s') s ai else none)
  (if (IM aj.dsts T&&XW (anc.getD j []) (aj.touch s) s T)=true then EQ cal (fun s'=>dK cal anc kn rj (Hg (anc.getD j []) T) s') s aj else none)
def AV.older1 (n:Nat):AV->AV
 | .row i=>if i<n then .row i else .undef
 | .eptr i j o=>if i<n then .eptr i j o else .undef
 | .ptr i o=>if i<n then .ptr i o else .undef
 | .agg _=>.undef
 | .tup _=>.undef
 | v=>v
def AV.older (n:Nat):AV->AV
 | .agg cs=>.agg (cs.map (AV.older1 n))
 | .tup _=>.undef
 | v=>v.older1 n
def AV.olderC (n:Nat):AV->AV
 | .row i=>if i<n then .row i else .undef
 | c=>c
def AS.older (n:Nat):AS->AS
 | .var cs=>.var (cs.map (AV.olderC n))
 | b=>b
def St.cut (s:St) (live:List Nat) (n:Nat):St:=⟨live.map fun t=>(t,(F7 s.fr t).older n),(s.st.take n).map (AS.older n)⟩
def Dz (s:St):List Nat->List (Nat×Nat)
 | []=>[]
 | t::r=>match F7 s.fr t with
  | .row i=>(t,i)::Dz s r
  | _=>Dz s r
def St.home (s:St) (n t i:Nat):St :=
 match F7 s.fr t with
 | .row k=>if n<=k then (match s.intoRow i (.row k) with
  | some x=>x.2.1.put t (.row i)
  | none=>s) else s
 | _=>s
def St.homes (n:Nat):List (Nat×Nat)->St->St
 | [],s=>s
 | p::r,s=>St.homes n r (s.home n p.1 p.2)
def St.cutH (s:St) (hs:List (Nat×Nat)) (live:List Nat) (n:Nat):St:=(St.homes n hs s).cut live n
inductive AI where
 | skip
 | region (ops:List GB) (live:List Nat)
 | draw (anc:List (List Nat)) (t:DT) (live:List Nat)
 | seq (a b:AI)
 | seqc (live:List Nat) (a b:AI)
 | cond (c:Cv) (a b:AI)
 | block (id:Nat) (live:List Nat) (body:AI)
 | loop (live:List Nat) (body:AI)
 | exit (id:Nat)
 | ret
def O_ {ρ:Type}:Nat->((St->Option ρ)->St->Option ρ)->St->Option ρ
 | 0,_,_=>none
 | k+1,F,s=>F (fun s'=>O_ k F s') s
noncomputable def Ha {ρ:Type} (cal:GM) (k:Nat):AI->(kn kr:St->Option ρ)->(ke:Nat->St->Option ρ)->St->Option ρ
 | .skip,kn,_,_,s=>kn s
 | .region ops live,kn,_,_,s=>j7 cal (fun s'=>kn ⟨live.map fun t=>(t,F7 s'.fr t),s'.st⟩) s ops
 | .draw anc t live,kn,_,_,s=>dK cal anc (fun s'=>kn ⟨live.map fun t=>(t,F7 s'.fr t),s'.st⟩) t [] s
 | .seqc live a b,kn,kr,ke,s=>Ha cal k a (fun s'=>Ha cal k b kn kr ke (s'.cutH (Dz s live) live s.st.length)) kr ke s
 | .seq a b,kn,kr,ke,s=>Ha cal k a (fun s'=>Ha cal k b kn kr ke s') kr ke s
 | .cond c a b,kn,kr,ke,s=>match s.opd c with
  | .bool t=>if t=true then Ha cal k a kn kr ke s else Ha cal k b kn kr ke s
  | _=>none
 | .block id live body,kn,kr,ke,s=>Ha cal k body (fun s'=>kn (s'.cutH (Dz s live) live s.st.length)) kr (fun i s'=>if i=id then kn (s'.cutH (Dz s live) live s.st.length) else ke i s') s
 | .loop live body,_,kr,ke,s=>O_ k (fun go s'=>Ha cal k body (fun s''=>go (s''.cutH (Dz s live) live s.st.length)) kr ke s') (s.cut live s.st.length)
 | .exit id,_,_,ke,s=>ke id s
 | .ret,_,kr,_,s=>kr s
structure Res where
 t:Nat
 cell:Bool
 K:Kd
structure BS where
 params:List PK
 res:List Res
 body:AI
def St.shutAll (s:St) (tk:List Nat):List Kd->List AV->Option (List AV×List Nat×St)
 | [],[]=>some ([],tk,s)
 | k::ks,v::vs=>match v with
  | .row i=>if Bx tk i=true then none else match k with
   | .own _ _=>match s.st[i]? with
    | some (.rows t e xs)=>(s.shutAll (i::tk) ks vs).bind fun y=>some (.new t e xs::y.1,y.2)
    | _=>none
   | _=>(s.keep (.row i)).bind fun x=>(x.2.shutAll tk ks vs).bind fun y=>some (x.1::y.1,y.2)
  | .ptr i 0=>if Bx tk i=true then none else match k with
   | .ref K=>match s.st[i]? with
    | some (.var cs)=>(Lz K.leaves cs).bind fun cs'=>(s.shutAll (i::tk) ks vs).bind fun y=>some (.ref cs'::y.1,y.2)
    | _=>none
   | _=>none
  | v=>(v.norm k).bind fun a=>(s.shutAll tk ks vs).bind fun y=>some (a::y.1,y.2)
 | _,_=>none
def St.resCells (s:St) (r:Res):Option (List AV) :=
 if r.cell=true then (s.behind (F7 s.fr r.t)).bind fun y=>some ((y.1.drop y.2).take r.K.sz)
 else if (AV.fits r.K (F7 s.fr r.t)&&(F7 s.fr r.t).full)=true then some (F7 s.fr r.t).cells else none
def St.result (s:St) (tk:List Nat):List Res->Option (List AV×List Nat×St)
 | []=>some ([],tk,s)
 | r::rs=>(s.resCells r).bind fun cs=>(s.shutAll tk r.K.leaves cs).bind fun y=>(r.K.ofCells y.1).bind fun x=>(y.2.2.result y.2.1 rs).bind fun z=>some (r.K.av x::z.1,z.2)
def Kd.noRef:Kd->Bool
 | .pair a b=>a.noRef&&b.noRef
 | .ref _=>false
 | _=>true
def St.shutBoxes (s:St) (tk:List Nat):List (Nat×Kd)->Option (List AV×List Nat×St)
 | []=>some ([],tk,s)
 | (b,K)::bs=>match s.st[b]? with
  | some (.mrow t e xs)=>if Kd.own t e=K then (s.shutBoxes tk bs).bind fun z=>some (.new t e xs::z.1,z.2) else none
  | some (.var cs)=>if (K.noRef&&!K.isOwn)=true then (s.shutAll tk K.leaves cs).bind fun y=>(K.ofCells y.1).bind fun x=>(y.2.2.shutBoxes y.2.1 bs).bind fun z=>some (K.av x::z.1,z.2) else none
  | _=>none
def ER:List PK->Nat->List (Nat×Kd)
 | [],_=>[]
 | .val _::r,j | .bor _::r,j | .mov _::r,j | .movS _::r,j | .cap _ _::r,j | .cap0 _::r,j=>ER r j
 | .ptr K::r,j=>(j,K)::ER r (j+1)
 | .mut K::r,j=>mt K.owns j++ER r (j+K.owns.length)
def BS.outs (fn:BS):List Kd:=fn.res.map (·.K)++(ER fn.params 0).map (·.2)
def AE (fn:BS) (s:St):Option (RT fn.outs) :=
 (s.result (List.range (ER fn.params 0).length) fn.res).bind fun y=>(y.2.2.shutBoxes y.2.1 (ER fn.params 0)).bind fun b=>CB fn.outs (y.1++b.1)
def RG:Nat->List AV->List (Nat×AV)
 | _,[]=>[]
 | i,v::vs=>(i,v)::RG (i+1) vs
noncomputable def xE (cal:GM) (k:Nat) (fn:BS) (args bs:List AV):Option (RT fn.outs) :=
 Ha cal k fn.body (AE fn) (AE fn) (fun _ _=>none) ⟨RG 0 (DW (Fe bs) args),Bd bs args⟩
noncomputable def gO (fns:Nat->Option BS) (prims:GM):Nat->GM
 | 0,_,_,_=>none
 | k+1,f,args,bs=>match fns f with
  | some fn=>if args.length=fn.params.length/\bs.length=(ER fn.params 0).length then (xE (gO fns prims k) k fn args bs).map (Dw fn.outs) else none
  | none=>prims f args bs

abbrev HP:=Nat->Option Obj
def HP.le (H H':HP):Prop:=∀ b o,H b=some o->H' b=some o
theorem HP.le_refl (H:HP):H.le H:=fun _ _ h=>h
theorem HP.le_trans {A B C:HP} (h:A.le B) (g:B.le C):A.le C:=fun b o e=>g b o (h b o e)
def ZR {α:Type} (R:α->List Value->Prop) (sz:Nat) (H:HP) (xs:List α) (v:Value):Prop :=
 ∃ a cap,v=.slice a xs.length cap/\xs.length<=cap/\(xs=[]\/∃ b off c el fz,a=some ⟨b,off,none⟩/\H b=some (.cells c el fz) /\
  ∀ j x,xs[j]? = some x->∃ cs,R x cs/\cs.length=sz/\∀ i u,cs[i]? = some u->c[off+j*sz+i]? = some u)
def ux (H:HP) (f:Nat) (R:List Value->Prop) (v:Value):Prop :=
 ∃ b o c el fz,v=.func (.func f) #[] #[.pointer (some ⟨b,o,none⟩)]/\H b=some (.cells c el fz)/\∃ vs,R vs/\∀ (j:Nat) u,vs[j]? = some u->c[o+j]? = some u
theorem j_ {H H':HP} (hH:H.le H') {f:Nat} {R R':List Value->Prop} {v:Value} (hR:∀ cs,R cs->R' cs) (h:ux H f R v):ux H' f R' v:=by
 obtain ⟨b,o,c,el,fz,e,hb,vs,hv,hc⟩:=h
 exact ⟨b,o,c,el,fz,e,hH _ _ hb,vs,hR _ hv,hc⟩
def GN (H:HP):(K:Kd)->K.T->List Value->Prop
 | .int k,n,cs=>cs=[.int k n]
 | .bool,b,cs=>cs=[.bool b]
 | .str,s,cs=>cs=[.string s]
 | .slice e,xs,cs=>∃ v,cs=[v]/\ZR (GN H e) e.sz H xs v
 | .pair a b,x,cs=>∃ c1 c2,cs=c1++c2/\GN H a x.1 c1/\GN H b x.2 c2
 | .own _ _,_,_=>False
 | .ref _,_,_=>False
 | .fun f,_,cs=>cs=[.func (.func f) #[] #[]]
 | .clo f K,x,cs=>∃ v,cs=[v]/\ux H f (GN H K x) v
theorem GN.length {H:HP}:∀ {K:Kd} {x:K.T} {cs:List Value},GN H K x cs->cs.length=K.sz
 | .int _,_,_,h=>by cases h; rfl
 | .bool,_,_,h=>by cases h; rfl
 | .str,_,_,h=>by cases h; rfl
 | .slice _,_,_,⟨_,h,_⟩=>by cases h; rfl
 | .pair _ _,_,_,⟨_,_,h,h1,h2⟩=>by subst h; simp [Kd.sz,GN.length h1,GN.length h2]
 | .own _ _,_,_,h=>h.elim
 | .ref _,_,_,h=>h.elim
 | .fun _,_,_,h=>by cases h; rfl
 | .clo _ _,_,_,⟨_,h,_⟩=>by cases h; rfl
theorem OL {α:Type} {R R':α->List Value->Prop} {sz:Nat} {H H':HP} {xs:List α} {v:Value} (hR:∀ x cs,R x cs->R' x cs) (hH:H.le H')
  (h:ZR R sz H xs v):ZR R' sz H' xs v:=by
 obtain ⟨a,cap,e,hc,h⟩:=h
 refine ⟨a,cap,e,hc,?_⟩
 rcases h with h | ⟨b,off,c,el,fz,ea,hb,hr⟩
 ·exact .inl h
 ·refine .inr ⟨b,off,c,el,fz,ea,hH _ _ hb,fun j x hx=>?_⟩
  obtain ⟨cs,h1,h2,h3⟩:=hr j x hx
  exact ⟨cs,hR _ _ h1,h2,h3⟩
theorem GN.mono {H H':HP} (hH:H.le H'):∀ {K:Kd} {x:K.T} {cs:List Value},GN H K x cs->GN H' K x cs
 | .int _,_,_,h=>h
 | .bool,_,_,h=>h
 | .str,_,_,h=>h
 | .slice _,_,_,⟨v,h,hr⟩=>⟨v,h,OL (fun _ _ h=>GN.mono hH h) hH hr⟩
 | .pair _ _,_,_,⟨c1,c2,h,h1,h2⟩=>⟨c1,c2,h,GN.mono hH h1,GN.mono hH h2⟩
 | .own _ _,_,_,h=>h.elim
 | .ref _,_,_,h=>h.elim
 | .fun _,_,_,h=>h
 | .clo _ _,_,_,⟨v,h,hr⟩=>⟨v,h,j_ hH (fun _ h=>GN.mono hH h) hr⟩
def VF (H:HP):AV->Value->Prop
 | .int k n,v=>v=.int k n
 | .bool b,v=>v=.bool b
 | .str s,v=>v=.string s
 | .nil,v=>v=.slice none 0 0
 | .lst K xs,v=>ZR (GN H K) K.sz H xs v
 | .fn f caps,v=>caps=[]/\v=.func (.func f) #[] #[]
 | .clo f K x,v=>ux H f (GN H K x) v
 | _,_=>False
theorem VF.mono {H H':HP} (hH:H.le H') {a:AV} {v:Value} (h:VF H a v):VF H' a v:=by
 cases a<;>simp only [VF] at h ⊢ <;> first | exact h | exact OL (fun _ _ h=>GN.mono hH h) hH h | exact j_ hH (fun _ h=>GN.mono hH h) h
def I8 (H:HP):List AV->List Value->Prop
 | [],vs=>vs=[]
 | a::aw,vs=>∃ v r,vs=v::r/\VF H a v/\I8 H aw r
theorem I8.mono {H H':HP} (hH:H.le H'):∀ {aw:List AV} {vs:List Value},I8 H aw vs->I8 H' aw vs
 | [],_,h=>h
 | _::_,_,⟨v,r,e,h,hr⟩=>⟨v,r,e,VF.mono hH h,I8.mono hH hr⟩
theorem I8.length {H:HP}:∀ {aw:List AV} {vs:List Value},I8 H aw vs->vs.length=aw.length
 | [],_,h=>by cases h; rfl
 | _::_,_,⟨v,r,e,_,hr⟩=>by subst e; simp [I8.length hr]
theorem I8.append {H:HP}:∀ {aw bs:List AV} {vs ws:List Value},I8 H aw vs->I8 H bs ws->I8 H (aw++bs) (vs++ws)
 | [],_,_,_,h,g=>by cases h; exact g
 | _::_,_,_,_,⟨v,r,e,h,hr⟩,g=>by subst e; exact ⟨v,_,rfl,h,I8.append hr g⟩
theorem I8.get {H:HP}:∀ {aw:List AV} {vs:List Value},I8 H aw vs->∀ (j:Nat) (a:AV),aw[j]? = some a->∃ v,vs[j]? = some v/\VF H a v
 | [],_,_,j,a,hj=>by simp at hj
 | x::aw,_,⟨v,r,e,h,hr⟩,0,a,hj=>by subst e; simp at hj; subst hj; exact ⟨v,rfl,h⟩
 | x::aw,_,⟨v,r,e,h,hr⟩,j+1,a,hj=>by subst e; simp at hj; simpa using I8.get hr j a hj
theorem I8.drop {H:HP}:∀ {aw:List AV} {vs:List Value} (n:Nat),I8 H aw vs->I8 H (aw.drop n) (vs.drop n)
 | aw,vs,0,h=>by simpa using h
 | [],vs,n+1,h=>by cases h; simp [I8]
 | _::_,_,n+1,⟨v,r,e,h,hr⟩=>by subst e; simpa using I8.drop n hr
theorem I8.take {H:HP}:∀ {aw:List AV} {vs:List Value} (n:Nat),I8 H aw vs->I8 H (aw.take n) (vs.take n)
 | aw,vs,0,h=>by simp [I8]
 | [],vs,n+1,h=>by cases h; simp [I8]
 | _::_,_,n+1,⟨v,r,e,h,hr⟩=>by subst e; exact ⟨v,_,by simp,h,I8.take n hr⟩
theorem I8.set {H:HP}:∀ {aw:List AV} {vs:List Value} (n:Nat) {a:AV} {v:Value},I8 H aw vs->VF H a v->I8 H (aw.set n a) (vs.set n v)
 | [],vs,n,a,v,h,_=>by cases h; simp [I8]
 | _::_,_,0,a,v,⟨v0,r,e,_,hr⟩,g=>by subst e; exact ⟨v,r,rfl,g,hr⟩
 | _::_,_,n+1,a,v,⟨v0,r,e,h,hr⟩,g=>by subst e; exact ⟨v0,_,rfl,h,I8.set n hr g⟩
theorem I8.of_rep {H:HP}:∀ {K:Kd} {x:K.T} {cs:List Value},GN H K x cs->I8 H (K.enc x) cs
 | .int _,_,_,h=>⟨_,_,h,rfl,rfl⟩
 | .bool,_,_,h=>⟨_,_,h,rfl,rfl⟩
 | .str,_,_,h=>⟨_,_,h,rfl,rfl⟩
 | .slice _,_,_,⟨v,h,hr⟩=>⟨_,_,h,hr,rfl⟩
 | .pair _ _,_,_,⟨_,_,h,h1,h2⟩=>by subst h; exact I8.append (I8.of_rep h1) (I8.of_rep h2)
 | .own _ _,_,_,h=>h.elim
 | .ref _,_,_,h=>h.elim
 | .fun _,_,_,h=>⟨_,_,h,⟨rfl,rfl⟩,rfl⟩
 | .clo _ _,_,_,⟨v,h,hr⟩=>⟨_,_,h,hr,rfl⟩
theorem Ve {α:Type} {R:α->List Value->Prop} {sz:Nat} {H:HP}:ZR R sz H ([]:List α) (.slice none 0 0):=⟨none,0,rfl,Nat.le_refl _,.inl rfl⟩
theorem Hh {H:HP}:∀ (K:Kd) {aw:List AV} {vs:List Value} {x:K.T} {r:List AV},I8 H aw vs->K.dec aw=some (x,r) ->
  ∃ c1 c2,vs=c1++c2/\GN H K x c1/\I8 H r c2:=by
 intro K
 induction K with
 | int k =>
  intro aw vs x r h hd
  cases aw with
  | nil=>simp [Kd.dec] at hd
  | cons a aw =>
   obtain ⟨v,w,e,h1,h2⟩:=h
   cases a<;>simp [Kd.dec] at hd
   obtain ⟨rfl,rfl,rfl⟩:=hd
   simp only [VF] at h1
   exact ⟨[v],w,by simp [e],by simp [GN,h1],h2⟩
 | bool =>
  intro aw vs x r h hd
  cases aw with
  | nil=>simp [Kd.dec] at hd
  | cons a aw =>
   obtain ⟨v,w,e,h1,h2⟩:=h
   cases a<;>simp [Kd.dec] at hd
   obtain ⟨rfl,rfl⟩:=hd
   simp only [VF] at h1
   exact ⟨[v],w,by simp [e],by simp [GN,h1],h2⟩
 | str =>
  intro aw vs x r h hd
  cases aw with
  | nil=>simp [Kd.dec] at hd
  | cons a aw =>
   obtain ⟨v,w,e,h1,h2⟩:=h
   cases a<;>simp [Kd.dec] at hd
   obtain ⟨rfl,rfl⟩:=hd
   simp only [VF] at h1
   exact ⟨[v],w,by simp [e],by simp [GN,h1],h2⟩
 | slice e ih =>
  intro aw vs x r h hd
  cases aw with
  | nil=>simp [Kd.dec] at hd
  | cons a aw =>
   obtain ⟨v,w,ev,h1,h2⟩:=h
   cases a with
   | nil =>
    simp only [Kd.dec,BG,Prod.mk.injEq] at hd
    obtain ⟨rfl,rfl⟩:=hd
    simp only [VF] at h1
    exact ⟨[v],w,by simp [ev],⟨v,rfl,by rw [h1]; exact Ve⟩,h2⟩
   | lst K xs =>
    simp only [Kd.dec] at hd
    split at hd
    ·rename_i hk
     subst hk
     simp only [BG,Prod.mk.injEq] at hd
     obtain ⟨rfl,rfl⟩:=hd
     exact ⟨[v],w,by simp [ev],⟨v,rfl,h1⟩,h2⟩
    ·cases hd
   | _=>simp [Kd.dec] at hd
 | pair a b iha ihb =>
  intro aw vs x r h hd
  simp only [Kd.dec] at hd
  cases hx:a.dec aw with
  | none=>simp [hx] at hd
  | some xa =>
   obtain ⟨xa,ra⟩:=xa
   simp only [hx,Z] at hd
   cases hy:b.dec ra with
   | none=>simp [hy] at hd
   | some yb =>
    obtain ⟨yb,rb⟩:=yb
    simp only [hy,Z,BG,Prod.mk.injEq] at hd
    obtain ⟨rfl,rfl⟩:=hd
    obtain ⟨c1,c2,e1,r1,h1⟩:=iha h hx
    obtain ⟨d1,d2,e2,r2,h2⟩:=ihb h1 hy
    exact ⟨c1++d1,d2,by simp [e1,e2],⟨c1,d1,rfl,r1,r2⟩,h2⟩
 | own t e ih =>
  intro aw vs x r h hd
  cases aw with
  | nil=>simp [Kd.dec] at hd
  | cons a aw =>
   obtain ⟨v,w,ev,h1,h2⟩:=h
   cases a<;>first | exact h1.elim | (simp [Kd.dec] at hd)
 | ref K ih =>
  intro aw vs x r h hd
  cases aw with
  | nil=>simp [Kd.dec] at hd
  | cons a aw =>
   obtain ⟨v,w,ev,h1,h2⟩:=h
   cases a<;>first | exact h1.elim | (simp [Kd.dec] at hd)
 | «fun» f =>
  intro aw vs x r h hd
  cases aw with
  | nil=>simp [Kd.dec] at hd
  | cons a aw =>
   obtain ⟨v,w,ev,h1,h2⟩:=h
   cases a with
   | fn f' caps =>
    cases caps with
    | nil =>
     simp only [Kd.dec] at hd
     split at hd
     ·rename_i e
      subst e
      cases hd
      obtain ⟨_,rfl⟩:=h1
      exact ⟨[_],w,by simp [ev],rfl,h2⟩
     ·cases hd
    | cons _ _=>simp [Kd.dec] at hd
   | _=>simp [Kd.dec] at hd
 | clo f K ih =>
  intro aw vs x r h hd
  cases aw with
  | nil=>simp [Kd.dec] at hd
  | cons a aw =>
   obtain ⟨v,w,ev,h1,h2⟩:=h
   cases a with
   | clo f' K' y =>
    simp only [Kd.dec] at hd
    split at hd
    ·rename_i e
     subst e
     split at hd
     ·rename_i hk
      subst hk
      simp only [BG,Prod.mk.injEq] at hd
      obtain ⟨rfl,rfl⟩:=hd
      exact ⟨[v],w,by simp [ev],⟨v,rfl,h1⟩,h2⟩
     ·cases hd
    ·cases hd
   | _=>simp [Kd.dec] at hd

abbrev CG:=Nat->Value
def AN (st:List AS) (id:Nat):Option (Kd×Nat) :=
 match st[id]? with
 | some (.rows _ K xs)=>some (K,xs.length)
 | some (.frz K xs)=>some (K,xs.length)
 | some (.mrow _ K xs)=>some (K,xs.length)
 | some (.byt _ xs)=>some (.int .u8,xs.length)
 | _=>none
def AS.hold:AS->Bool
 | .var _=>true
 | .mrow _ _ _=>true
 | _=>false
def AW (st:List AS) (id:Nat):Bool :=
 match st[id]? with
 | some b=>b.hold
 | _=>false
def Ak (st:List AS) (id:Nat):Bool :=
 match st[id]? with
 | some (.var _)=>true
 | _=>false
def Aq {α β:Type} (R:α->β->Prop):List α->List β->Prop
 | [],vs=>vs=[]
 | a::aw,vs=>∃ v r,vs=v::r/\R a v/\Aq R aw r
theorem Aq.imp {α β:Type} {R S:α->β->Prop} (h:∀ a v,R a v->S a v):∀ {aw:List α} {vs:List β},Aq R aw vs->Aq S aw vs
 | [],_,e=>e
 | _::_,_,⟨v,r,e,g,hr⟩=>⟨v,r,e,h _ _ g,Aq.imp h hr⟩
theorem Aq.impM {α β:Type} {R S:α->β->Prop}:∀ {aw:List α} {vs:List β},(∀ a∈aw,∀ v,R a v->S a v)->Aq R aw vs->Aq S aw vs
 | [],_,_,e=>e
 | a::aw,_,h,⟨v,r,e,g,hr⟩=>⟨v,r,e,h a (by simp) _ g,Aq.impM (fun b hb=>h b (by simp [hb])) hr⟩
theorem Aq.map {α β:Type} {R S:α->β->Prop} {f:α->α} (h:∀ a v,R a v->S (f a) v):∀ {aw:List α} {vs:List β},Aq R aw vs->Aq S (aw.map f) vs
 | [],_,e=>e
 | _::_,_,⟨v,r,e,g,hr⟩=>⟨v,r,e,h _ _ g,Aq.map h hr⟩
theorem Aq.length {α β:Type} {R:α->β->Prop}:∀ {aw:List α} {vs:List β},Aq R aw vs->vs.length=aw.length
 | [],_,h=>by cases h; rfl
 | _::_,_,⟨v,r,e,_,hr⟩=>by subst e; simp [Aq.length hr]
theorem Aq.get {α β:Type} {R:α->β->Prop}:∀ {aw:List α} {vs:List β},Aq R aw vs->∀ (j:Nat) (a:α),aw[j]? = some a->∃ v,vs[j]? = some v/\R a v
 | [],_,_,j,a,hj=>by simp at hj
 | x::aw,_,⟨v,r,e,h,hr⟩,0,a,hj=>by subst e; simp at hj; subst hj; exact ⟨v,rfl,h⟩
 | x::aw,_,⟨v,r,e,h,hr⟩,j+1,a,hj=>by subst e; simp at hj; simpa using Aq.get hr j a hj
theorem S8 {α β:Type} {R:α->β->Prop}:∀ {aw:List α} {vs:List β},vs.length=aw.length->(∀ (j:Nat) (a:α) (v:β),aw[j]? = some a->vs[j]? = some v->R a v)->Aq R aw vs
 | [],[],_,_=>rfl
 | [],_::_,h,_=>by simp at h
 | _::_,[],h,_=>by simp at h
 | a::aw,v::vs,h,g=>⟨v,vs,rfl,g 0 a v rfl rfl,S8 (by simpa using h) fun j a v h1 h2=>g (j+1) a v (by simpa using h1) (by simpa using h2)⟩
theorem Aq.mem {α β:Type} {R:α->β->Prop}:∀ {aw:List α} {vs:List β},Aq R aw vs->∀ (j:Nat) (v:β),vs[j]? = some v->∃ a,aw[j]? = some a/\R a v
 | [],_,h,j,v,hj=>by cases h; simp at hj
 | x::aw,_,⟨v',r,e,h,hr⟩,0,v,hj=>by subst e; simp at hj; subst hj; exact ⟨x,rfl,h⟩
 | x::aw,_,⟨v',r,e,h,hr⟩,j+1,v,hj=>by subst e; simp at hj; simpa using Aq.mem hr j v hj
theorem Aq.at {α β:Type} {R:α->β->Prop} {aw:List α} {vs:List β} (h:Aq R aw vs) {j:Nat} {a:α} {v:β} (ha:aw[j]? = some a) (hv:vs[j]? = some v):R a v:=by
 obtain ⟨v',h1,h2⟩:=h.get j a ha
 rw [hv] at h1
 cases h1
 exact h2
theorem Aq.drop {α β:Type} {R:α->β->Prop}:∀ {aw:List α} {vs:List β} (n:Nat),Aq R aw vs->Aq R (aw.drop n) (vs.drop n)
 | aw,vs,0,h=>by simpa using h
 | [],vs,n+1,h=>by cases h; simp [Aq]
 | _::_,_,n+1,⟨v,r,e,h,hr⟩=>by subst e; simpa using Aq.drop n hr
theorem Aq.take {α β:Type} {R:α->β->Prop}:∀ {aw:List α} {vs:List β} (n:Nat),Aq R aw vs->Aq R (aw.take n) (vs.take n)
 | aw,vs,0,h=>by simp [Aq]
 | [],vs,n+1,h=>by cases h; simp [Aq]
 | _::_,_,n+1,⟨v,r,e,h,hr⟩=>by subst e; exact ⟨v,_,by simp,h,Aq.take n hr⟩
theorem Aq.append {α β:Type} {R:α->β->Prop}:∀ {aw bs:List α} {vs ws:List β},Aq R aw vs->Aq R bs ws->Aq R (aw++bs) (vs++ws)
 | [],_,_,_,h,g=>by cases h; exact g
 | _::_,_,_,_,⟨v,r,e,h,hr⟩,g=>by subst e; exact ⟨v,_,rfl,h,Aq.append hr g⟩
theorem Hi {H:HP}:∀ {aw:List AV} {vs:List Value},I8 H aw vs↔Aq (VF H) aw vs
 | [],_=>Iff.rfl
 | _::_,_=>⟨fun ⟨v,r,e,h,hr⟩=>⟨v,r,e,h,Hi.1 hr⟩,fun ⟨v,r,e,h,hr⟩=>⟨v,r,e,h,Hi.2 hr⟩⟩
def VC (H:HP) (φ:CG) (st:List AS):AV->Value->Prop
 | .undef,_=>True
 | .void,v=>v=Go.undef
 | .was _,_=>True
 | .self _,_=>True
 | .row id,v=>v=φ id/\(AN st id).isSome=true
 | .ptr id off,v=>Ak st id=true/\∃ b,φ id=.pointer (some ⟨b,0,none⟩)/\v=.pointer (some ⟨b,off,none⟩)
 | .eptr id i off,v=>∃ b n cap K,AN st id=some (K,n)/\i<n/\φ id=.slice (some ⟨b,0,none⟩) n cap/\v=.pointer (some ⟨b,i*K.sz+off,none⟩)
 | .fptr cs off,v=>∃ b o c el fz,v=.pointer (some ⟨b,o+off,none⟩)/\H b=some (.cells c el fz)/\∃ vs,I8 H cs vs/\∀ j u,vs[j]? = some u->c[o+j]? = some u
 | a,v=>VF H a v
def VE (H:HP):AV->Value->Prop
 | .agg cs,v=>∃ arr,v=.agg arr/\I8 H cs arr.toList
 | a,v=>VF H a v
def VB (H:HP) (φ:CG) (st:List AS):AV->Value->Prop
 | .agg cs,v=>∃ arr,v=.agg arr/\Aq (VC H φ st) cs arr.toList
 | a,v=>VC H φ st a v
def VA (H:HP) (φ:CG) (st:List AS):AV->Value->Prop
 | .tup vs,v=>∃ arr,v=.tuple arr/\Aq (VB H φ st) vs arr.toList
 | a,v=>VB H φ st a v
def VW (H:HP) (p:Value) (el:TypeId):AV->Value->Prop
 | .row _,_=>True
 | .self T,v=>el=T/\(v=.pointer none\/v=p)
 | .was _,_=>True
 | .undef,_=>True
 | a,v=>VF H a v
def Gw (H:HP) (φ:CG) (st:List AS) (fr:List (Nat×AV)) (tmps:Array Value):Prop :=
 ∀ t,VA H φ st (F7 fr t) (tmps.getD t undef)
def DZ:Value->Option Nat
 | .pointer (some a)=>some a.block
 | .slice (some a) _ _=>some a.block
 | _=>none
def AS.live:AS->Bool
 | .var _=>true
 | .rows _ _ _=>true
 | .mrow _ _ _=>true
 | .byt _ _=>true
 | _=>false
def Dx (H:HP) (K:Kd) (xs:List K.T) (flat:List Value):Prop :=
 ∀ j x,xs[j]? = some x->GN H K x ((flat.drop (j*K.sz)).take K.sz)
def tX (w:World) (t:TypeId) (v:Value) (xs:List Int):Prop :=
 ∃ (g cap:Nat) (cur:Array Value) (fz:Nat×Nat),v=.slice (some ⟨g,0,none⟩) xs.length cap/\w.heap[g]? = some (.cells cur t fz)/\xs.length<=fz.1/\xs.length<=cap/\∀ (j:Nat) (x:Int),xs[j]? = some x->cur[j]? = some (Value.int .u8 x)
def L6 (H:HP) (w:World) (v:Value):AS->Prop
 | .var cs=>∃ b c el,v=.pointer (some ⟨b,0,none⟩)/\w.heap[b]? = some (.cells c el (0,0))/\Aq (VW H v el) cs c.toList
 | .rows t K xs=>∃ flat,w.ownsRow 0 t K.sz v xs.length flat/\Dx H K xs flat
 | .mrow t K xs=>∃ flat,w.ownsRow 0 t K.sz v xs.length flat/\Dx H K xs flat
 | .byt t xs=>tX w t v xs
 | .frz K xs=>ZR (GN H K) K.sz H xs v/\∀ a n cap,v=.slice (some a) n cap->a.off=0/\a.spot=none
 | .dead=>True
def ACv:List (Nat×Array Value):=[(1,(Go.Lib.pow10Tab.map fun z=>Value.int .u64 z).toArray)]
def pG (H:HP):Prop:=∀ p∈ACv,∃ el fz,H p.1=some (.cells p.2 el fz)
theorem pG.le {H H':HP} (h:pG H) (hle:H.le H'):pG H':=fun p hp=>by
 obtain ⟨el,fz,e⟩:=h p hp
 exact ⟨el,fz,hle _ _ e⟩
structure SR (H:HP) (φ:CG) (st:List AS) (w:World):Prop where
 hp:∀ b o,H b=some o->w.heap[b]? = some o
 box:∀ id bx,st[id]? = some bx->L6 H w (φ id) bx
 sep:∀ i j bi bj,st[i]? = some bi->st[j]? = some bj->bi.live=true->bj.live=true->i≠j->∀ b,DZ (φ i)=some b->DZ (φ j)≠some b
 out:∀ i bi,st[i]? = some bi->bi.live=true->∀ b,DZ (φ i)=some b->H b=none
 cell:∀ id cs,st[id]? = some (.var cs)->∀ (o i:Nat),cs[o]? = some (AV.row i)->(AN st i).isSome=true/\∃ b,φ id=.pointer (some ⟨b,0,none⟩)/\w.cell? ⟨b,o,none⟩=some (φ i)
 tb:pG H
def By (φ:CG) (st:List AS) (φ':CG) (st':List AS) (x:Option Nat):Prop :=
 ∀ id,some id≠x->((AN st id).isSome=true\/Ak st id=true)->φ' id=φ id/\AN st' id=AN st id/\Ak st' id=Ak st id/\AW st' id=AW st id
theorem By.refl (φ:CG) (st:List AS) (x:Option Nat):By φ st φ st x:=fun _ _ _=>⟨rfl,rfl,rfl,rfl⟩
theorem zC {st:List AS} {id:Nat} (h:AW st id=true):(AN st id).isSome=true\/Ak st id=true:=by
 unfold AW at h
 unfold AN Ak
 split at h
 ·rename_i b e
  rw [e]
  cases b<;>first | exact .inl rfl | exact .inr rfl | cases h
 ·cases h
theorem By.hold {φ φ':CG} {st st':List AS} (h:By φ st φ' st' none) (id:Nat) (hv:AW st id=true):φ' id=φ id/\AW st' id=true/\Ak st' id=Ak st id:=by
 obtain ⟨k1,_,k3,k4⟩:=h id (by simp) (zC hv)
 exact ⟨k1,k4.trans hv,k3⟩
theorem By.trans {φ φ' φ'':CG} {st st' st'':List AS} (h:By φ st φ' st' none) (g:By φ' st' φ'' st'' none):By φ st φ'' st'' none:=by
 intro id hx hd
 obtain ⟨h1,h2,h3,h4⟩:=h id hx hd
 obtain ⟨g1,g2,g3,g4⟩:=g id hx (by rw [h2,h3]; exact hd)
 exact ⟨g1.trans h1,g2.trans h2,g3.trans h3,g4.trans h4⟩
theorem VC.mono {H H':HP} {φ φ':CG} {st st':List AS} (hH:H.le H') (hk:By φ st φ' st' none) {a:AV} {v:Value} (h:VC H φ st a v):VC H' φ' st' a v:=by
 cases a with
 | undef=>trivial
 | void=>exact h
 | was id=>trivial
 | row id =>
  obtain ⟨e,hs⟩:=h
  obtain ⟨k1,k2,_⟩:=hk id (by simp) (.inl hs)
  exact ⟨by rw [k1]; exact e,by rw [k2]; exact hs⟩
 | ptr id off =>
  obtain ⟨hs,b,e1,e2⟩:=h
  obtain ⟨k1,_,k3,_⟩:=hk id (by simp) (.inr hs)
  exact ⟨by rw [k3]; exact hs,b,by rw [k1]; exact e1,e2⟩
 | eptr id i off =>
  obtain ⟨b,n,cap,K,hs,hi,e1,e2⟩:=h
  obtain ⟨k1,k2,_⟩:=hk id (by simp) (.inl (by simp [hs]))
  exact ⟨b,n,cap,K,by rw [k2]; exact hs,hi,by rw [k1]; exact e1,e2⟩
 | fptr cs off =>
  obtain ⟨b,o,c,el,fz,e,hb,vs,h1,h2⟩:=h
  exact ⟨b,o,c,el,fz,e,hH _ _ hb,vs,h1.mono hH,h2⟩
 | fn f caps=>exact VF.mono hH (a:=.fn f caps) h
 | clo f K x=>exact VF.mono hH (a:=.clo f K x) h
 | agg cs=>exact h.elim
 | tup vs=>exact h.elim
 | new t K xs=>exact h.elim
 | ref cs=>exact h.elim
 | self T=>trivial
 | int k n=>exact VF.mono hH (a:=.int k n) h
 | bool b=>exact VF.mono hH (a:=.bool b) h
 | str s=>exact VF.mono hH (a:=.str s) h
 | nil=>exact VF.mono hH (a:=.nil) h
 | lst K xs=>exact VF.mono hH (a:=.lst K xs) h
theorem VE.cases {H:HP} {a:AV} {v:Value} (h:VE H a v):(∃ cs arr,a=.agg cs/\v=.agg arr/\I8 H cs arr.toList)\/VF H a v:=by
 cases a<;>first | exact .inr h | (obtain ⟨arr,e,h⟩:=h; exact .inl ⟨_,arr,rfl,e,h⟩)
theorem VE.of_VF {H:HP} {a:AV} {v:Value} (h:VF H a v):VE H a v:=by
 cases a<;>first | exact h | exact (h:False).elim
theorem VE.mono {H H':HP} (hH:H.le H') {a:AV} {v:Value} (h:VE H a v):VE H' a v:=by
 rcases h.cases with ⟨cs,arr,rfl,e,h⟩ | h
 ·exact ⟨arr,e,h.mono hH⟩
 ·exact .of_VF (h.mono hH)
theorem VA.cases {H:HP} {φ:CG} {st:List AS} {a:AV} {v:Value} (h:VA H φ st a v) :
  (∃ cs arr,a=.agg cs/\v=.agg arr/\Aq (VC H φ st) cs arr.toList)\/(∃ vs arr,a=.tup vs/\v=.tuple arr/\Aq (VB H φ st) vs arr.toList)\/VC H φ st a v:=by
 cases a<;>first | exact .inr (.inr h) | (obtain ⟨arr,e,h⟩:=h; first | exact .inl ⟨_,arr,rfl,e,h⟩ | exact .inr (.inl ⟨_,arr,rfl,e,h⟩))
theorem VB.cases {H:HP} {φ:CG} {st:List AS} {a:AV} {v:Value} (h:VB H φ st a v) :
  (∃ cs arr,a=.agg cs/\v=.agg arr/\Aq (VC H φ st) cs arr.toList)\/VC H φ st a v:=by
 cases a<;>first | exact .inr h | (obtain ⟨arr,e,h⟩:=h; exact .inl ⟨_,arr,rfl,e,h⟩)
theorem VB.of_VC {H:HP} {φ:CG} {st:List AS} {a:AV} {v:Value} (h:VC H φ st a v):VB H φ st a v:=by
 cases a<;>first | exact h | exact (h:False).elim
theorem VB.mono {H H':HP} {φ φ':CG} {st st':List AS} (hH:H.le H') (hk:By φ st φ' st' none) {a:AV} {v:Value} (h:VB H φ st a v):VB H' φ' st' a v:=by
 rcases h.cases with ⟨cs,arr,rfl,e,h⟩ | h
 ·exact ⟨arr,e,h.imp fun _ _ h=>h.mono hH hk⟩
 ·exact .of_VC (h.mono hH hk)
theorem VA.of_VB {H:HP} {φ:CG} {st:List AS} {a:AV} {v:Value} (h:VB H φ st a v):VA H φ st a v:=by
 cases a<;>first | exact h | exact (h:False).elim
theorem VA.of_VC {H:HP} {φ:CG} {st:List AS} {a:AV} {v:Value} (h:VC H φ st a v):VA H φ st a v:=by
 cases a<;>first | exact h | exact (h:False).elim
theorem VA.mono {H H':HP} {φ φ':CG} {st st':List AS} (hH:H.le H') (hk:By φ st φ' st' none) {a:AV} {v:Value} (h:VA H φ st a v):VA H' φ' st' a v:=by
 rcases h.cases with ⟨cs,arr,rfl,e,h⟩ | ⟨vs,arr,rfl,e,h⟩ | h
 ·exact ⟨arr,e,h.imp fun _ _ h=>h.mono hH hk⟩
 ·exact ⟨arr,e,h.imp fun _ _ h=>h.mono hH hk⟩
 ·exact .of_VC (h.mono hH hk)
theorem Gw.mono {H H':HP} {φ φ':CG} {st st':List AS} (hH:H.le H') (hk:By φ st φ' st' none) {fr:List (Nat×AV)} {tmps:Array Value}
  (h:Gw H φ st fr tmps):Gw H' φ' st' fr tmps:=fun t=>(h t).mono hH hk
theorem VC.of_VF {H:HP} {φ:CG} {st:List AS} {a:AV} {v:Value} (h:VF H a v):VC H φ st a v:=by
 cases a<;>first | exact h | exact (h:False).elim
theorem VA.of_VF {H:HP} {φ:CG} {st:List AS} {a:AV} {v:Value} (h:VF H a v):VA H φ st a v:=by
 cases a<;>first | exact h | exact (h:False).elim
theorem VA.of_VE {H:HP} {φ:CG} {st:List AS} {a:AV} {v:Value} (h:VE H a v):VA H φ st a v:=by
 rcases h.cases with ⟨cs,arr,rfl,e,h⟩ | h
 ·exact ⟨arr,e,(Hi.1 h).imp fun _ _ h=>VC.of_VF h⟩
 ·exact VA.of_VF h
theorem VC.solid {H:HP} {φ:CG} {st:List AS} {a:AV} {v:Value} (hs:a.solid=true) (h:VC H φ st a v):VF H a v:=by
 cases a<;>first | exact h | cases hs
theorem VCs.solid {H:HP} {φ:CG} {st:List AS} {aw:List AV} {vs:List Value} (hs:aw.all AV.solid=true) (h:Aq (VC H φ st) aw vs):I8 H aw vs :=
 Hi.2 (h.impM fun a ha _ g=>VC.solid (Bf.1 hs a ha) g)
theorem Gw.put {H:HP} {φ:CG} {st:List AS} {fr:List (Nat×AV)} {tmps:Array Value} (h:Gw H φ st fr tmps) {d:Nat} (hd:d<tmps.size)
  {a:AV} {v:Value} (hv:VA H φ st a v):Gw H φ st ((d,a)::fr) (tmps.setIfInBounds d v):=by
 intro t
 simp only [F7]
 by_cases e:d=t
 ·subst e
  rw [if_pos rfl]
  simpa [Array.getD,hd] using hv
 ·rw [if_neg e]
  have:=h t
  simpa [Array.getD_eq_getD_getElem?,Array.getElem?_setIfInBounds,e] using this
theorem sj (fr:List (Nat×AV)) (f:AV->AV) (live:List Nat) (t:Nat) :
  F7 (live.map fun t=>(t,f (F7 fr t))) t=.undef\/F7 (live.map fun t=>(t,f (F7 fr t))) t=f (F7 fr t):=by
 induction live with
 | nil=>exact .inl rfl
 | cons s r ih =>
  simp only [List.map_cons,F7]
  by_cases e:s=t
  ·subst e; rw [if_pos rfl]; exact .inr rfl
  ·rw [if_neg e]; exact ih
theorem Gw.live {H:HP} {φ:CG} {st:List AS} {fr:List (Nat×AV)} {tmps:Array Value} (h:Gw H φ st fr tmps) (live:List Nat) :
  Gw H φ st (live.map fun t=>(t,F7 fr t)) tmps:=by
 intro t
 rcases sj fr id live t with e | e
 ·simp only [id] at e; rw [e]; trivial
 ·simp only [id] at e; rw [e]; exact h t
theorem La {st:List AS} {id:Nat} (h:(AN st id).isSome=true):id<st.length:=by
 unfold AN at h
 rcases B6 id st.length with g | g
 ·exact g
 ·rw [Dc g] at h; simp at h
theorem pH {st:List AS} {id:Nat} (h:Ak st id=true):id<st.length:=by
 unfold Ak at h
 rcases B6 id st.length with g | g
 ·exact g
 ·rw [Dc g] at h; simp at h
theorem E4 (φ:CG) (st:List AS) (v:Value) (b:AS):By φ st (fun i=>if i=st.length then v else φ i) (st++[b]) none:=by
 intro id _ hd
 have hl:id<st.length:=by rcases hd with h | h; exact La h; exact pH h
 refine ⟨by simp [Nat.ne_of_lt hl],?_,?_,?_⟩
 ·simp [AN,BF hl]
 ·simp [Ak,BF hl]
 ·simp [AW,BF hl]
def OM (f:AS->AS):Prop:=∀ b,(∃ cs cs',b=.var cs/\f b=.var cs')\/(f b=b/\∀ cs,b≠.var cs)
theorem Ab (ids:List Nat):OM (AS.kill ids):=fun b=>by
 cases b<;>first | exact .inl ⟨_,_,rfl,rfl⟩ | exact .inr ⟨rfl,by simp⟩
theorem P8 (n:Nat):OM (AS.older n):=fun b=>by
 cases b<;>first | exact .inl ⟨_,_,rfl,rfl⟩ | exact .inr ⟨rfl,by simp⟩
theorem Gr {f:AS->AS} (hf:OM f) (st:List AS) (id:Nat):AN (st.map f) id=AN st id:=by
 unfold AN
 rw [CT]
 cases st[id]? with
 | none=>rfl
 | some b =>
  simp only [Option.map_some]
  rcases hf b with ⟨cs,cs',rfl,e⟩ | ⟨e,_⟩
  ·rw [e]
  ·rw [e]
theorem FY {f:AS->AS} (hf:OM f) (st:List AS) (id:Nat):Ak (st.map f) id=Ak st id:=by
 unfold Ak
 rw [CT]
 cases st[id]? with
 | none=>rfl
 | some b =>
  simp only [Option.map_some]
  rcases hf b with ⟨cs,cs',rfl,e⟩ | ⟨e,_⟩
  ·rw [e]
  ·rw [e]
theorem RY {st:List AS} {id:Nat} (h:AW st id=true):id<st.length:=by
 unfold AW at h
 rcases B6 id st.length with g | g
 ·exact g
 ·rw [Dc g] at h; simp at h
theorem Fg {f:AS->AS} (hf:OM f) (st:List AS) (id:Nat):AW (st.map f) id=AW st id:=by
 unfold AW
 rw [CT]
 cases st[id]? with
 | none=>rfl
 | some b =>
  simp only [Option.map_some]
  rcases hf b with ⟨cs,cs',rfl,e⟩ | ⟨e,_⟩
  ·rw [e]; rfl
  ·rw [e]
theorem ACt {f:AS->AS} (hf:OM f) (φ:CG) (st:List AS):By φ st φ (st.map f) none :=
 fun id _ _=>⟨rfl,Gr hf st id,FY hf st id,Fg hf st id⟩
theorem AV.firm_VB {H:HP} {φ:CG} {st:List AS} {a:AV} {v:Value} (hs:a.firm=true) (h:VB H φ st a v):VE H a v:=by
 rcases h.cases with ⟨cs,arr,rfl,e,h⟩ | h
 ·exact ⟨arr,e,VCs.solid hs h⟩
 ·cases a<;>first | exact VE.of_VF h | cases hs | exact h.elim
theorem VB.of_VE {H:HP} {φ:CG} {st:List AS} {a:AV} {v:Value} (h:VE H a v):VB H φ st a v:=by
 rcases h.cases with ⟨cs,arr,rfl,e,h⟩ | h
 ·exact ⟨arr,e,(Hi.1 h).imp fun _ _ h=>VC.of_VF h⟩
 ·exact VB.of_VC (VC.of_VF h)
theorem VC.older {H:HP} {φ:CG} {st:List AS} {a:AV} {v:Value} (h:VC H φ st a v) (n:Nat):VC H φ ((st.take n).map (AS.older n)) (a.older1 n) v:=by
 have hk:∀ id,id<n->AN ((st.take n).map (AS.older n)) id=AN st id/\Ak ((st.take n).map (AS.older n)) id=Ak st id:=by
  intro id hid
  rw [Gr (P8 n),FY (P8 n)]
  simp [AN,Ak,Bz,hid]
 cases a with
 | row id =>
  simp only [AV.older1]; split
  ·rename_i hid; obtain ⟨e,g⟩:=h; exact ⟨e,by rw [(hk id hid).1]; exact g⟩
  ·trivial
 | ptr id o =>
  simp only [AV.older1]; split
  ·rename_i hid; obtain ⟨g,r⟩:=h; exact ⟨by rw [(hk id hid).2]; exact g,r⟩
  ·trivial
 | eptr id i o =>
  simp only [AV.older1]; split
  ·rename_i hid; obtain ⟨b,m,cap,K,g,r⟩:=h; exact ⟨b,m,cap,K,by rw [(hk id hid).1]; exact g,r⟩
  ·trivial
 | agg cs=>trivial
 | tup vs=>trivial
 | _=>exact h
theorem VA.older {H:HP} {φ:CG} {st:List AS} {a:AV} {v:Value} (h:VA H φ st a v) (n:Nat):VA H φ ((st.take n).map (AS.older n)) (a.older n) v:=by
 rcases h.cases with ⟨cs,arr,rfl,e,h⟩ | ⟨vs,arr,rfl,e,h⟩ | h
 ·exact ⟨arr,e,h.map fun _ _ h=>h.older n⟩
 ·trivial
 ·have:a.older n=a.older1 n:=by cases a<;>first | rfl | exact h.elim
  rw [this]
  exact VA.of_VC (h.older n)
def Cw (φ:CG) (st:List AS) (φ':CG) (st':List AS) (ids:List Nat):Prop :=
 (∀ id,Bx ids id=false->((AN st id).isSome=true\/Ak st id=true)->φ' id=φ id/\AN st' id=AN st id/\Ak st' id=Ak st id) /\
 (∀ id,AW st id=true->φ' id=φ id/\AW st' id=true/\Ak st' id=Ak st id)
theorem XX {st:List AS} {id:Nat} (h:Ak st id=true):AW st id=true:=by
 unfold Ak at h
 unfold AW
 split at h
 ·rename_i e; rw [e]; rfl
 ·cases h
theorem VC.kill {H:HP} {φ φ':CG} {st st':List AS} {ids:List Nat} (hk:Cw φ st φ' st' ids) {a:AV} {v:Value} (h:VC H φ st a v):VC H φ' st' (a.kill1 ids) v:=by
 cases a with
 | row id =>
  simp only [AV.kill1]; split
  ·trivial
  ·rename_i hid
   obtain ⟨e,g⟩:=h
   obtain ⟨k1,k2,_⟩:=hk.1 id (by simpa using hid) (.inl g)
   exact ⟨by rw [k1]; exact e,by rw [k2]; exact g⟩
 | ptr id o =>
  obtain ⟨g,b,e1,e2⟩:=h
  obtain ⟨k1,_,k3⟩:=hk.2 id (XX g)
  exact ⟨k3.trans g,b,by rw [k1]; exact e1,e2⟩
 | eptr id i o =>
  simp only [AV.kill1]; split
  ·trivial
  ·rename_i hid
   obtain ⟨b,m,cap,K,g,hi,e1,e2⟩:=h
   obtain ⟨k1,k2,_⟩:=hk.1 id (by simpa using hid) (.inl (by simp [g]))
   exact ⟨b,m,cap,K,by rw [k2]; exact g,hi,by rw [k1]; exact e1,e2⟩
 | agg cs=>trivial
 | tup vs=>trivial
 | _=>exact h
theorem VA.kill {H:HP} {φ φ':CG} {st st':List AS} {ids:List Nat} (hk:Cw φ st φ' st' ids) {a:AV} {v:Value} (h:VA H φ st a v):VA H φ' st' (a.kill ids) v:=by
 rcases h.cases with ⟨cs,arr,rfl,e,h⟩ | ⟨vs,arr,rfl,e,h⟩ | h
 ·exact ⟨arr,e,h.map fun _ _ h=>h.kill hk⟩
 ·simp only [AV.kill]
  split
  ·rename_i hf
   exact ⟨arr,e,h.impM fun a ha _ g=>VB.of_VE (AV.firm_VB (Bf.1 hf a ha) g)⟩
  ·trivial
 ·have:a.kill ids=a.kill1 ids:=by cases a<;>first | rfl | exact h.elim
  rw [this]
  exact VA.of_VC (h.kill hk)
theorem uy (f:AV->AV):∀ (fr:List (Nat×AV)) (t:Nat),F7 (fr.map fun p=>(p.1,f p.2)) t=f (F7 fr t)\/F7 (fr.map fun p=>(p.1,f p.2)) t=.undef
 | [],_=>.inr rfl
 | (s,v)::r,t=>by
  simp only [List.map_cons,F7]
  by_cases e:s=t
  ·rw [if_pos e,if_pos e]; exact .inl rfl
  ·rw [if_neg e,if_neg e]; exact uy f r t
theorem Gw.kill {H:HP} {φ φ':CG} {st st':List AS} {ids:List Nat} (hk:Cw φ st φ' st' ids) {fr:List (Nat×AV)} {tmps:Array Value} (h:Gw H φ st fr tmps):Gw H φ' st' (fr.map (O8 ids)) tmps:=by
 intro t
 rcases uy (AV.kill ids) fr t with e | e
 ·have:fr.map (O8 ids)=fr.map fun p=>(p.1,p.2.kill ids):=rfl
  rw [this,e]; exact (h t).kill hk
 ·have:fr.map (O8 ids)=fr.map fun p=>(p.1,p.2.kill ids):=rfl
  rw [this,e]; trivial
end Go.Proofs.YtfcgblnlopemkaaGreatDoor.Core

namespace Go.Proofs.YtfcgblnlopemkaaGreatDoor.Core
open Go
variable {H:HP} {φ:CG} {st:List AS} {w w':World}
theorem HP.lt_of (h:∀ b o,H b=some o->w.heap[b]? = some o) {b:Nat} {o:Obj} (hb:H b=some o):b<w.heap.size :=
 (Array.getElem?_eq_some_iff.1 (h b o hb)).1
theorem L6.blk_lt {v:Value} {bx:AS} (h:L6 H w v bx) (hl:bx.live=true) {b:Nat} (hb:DZ v=some b):b<w.heap.size:=by
 cases bx with
 | var cs =>
  obtain ⟨b',c,el,rfl,hh,_⟩:=h
  simp only [DZ,BG] at hb
  subst hb
  exact (Array.getElem?_eq_some_iff.1 hh).1
 | rows t K xs =>
  obtain ⟨flat,ho,_⟩:=h
  rcases ho.2 with ⟨rfl,_⟩ | ⟨g,cap,cur,rfl,_,hg,_⟩
  ·simp [DZ] at hb
  ·simp only [DZ,BG] at hb
   subst hb
   exact (Array.getElem?_eq_some_iff.1 hg).1
 | mrow t K xs =>
  obtain ⟨flat,ho,_⟩:=h
  rcases ho.2 with ⟨rfl,_⟩ | ⟨g,cap,cur,rfl,_,hg,_⟩
  ·simp [DZ] at hb
  ·simp only [DZ,BG] at hb
   subst hb
   exact (Array.getElem?_eq_some_iff.1 hg).1
 | byt t xs =>
  obtain ⟨g,cap,cur,fz,rfl,hg,_⟩:=h
  simp only [DZ,BG] at hb
  subst hb
  exact (Array.getElem?_eq_some_iff.1 hg).1
 | frz K xs=>simp [AS.live] at hl
 | dead=>simp [AS.live] at hl
theorem ADP {v:Value} (h:∀ a,v≠.pointer a):DZ v=v.ownBlock:=by
 cases v<;>try rfl
 case pointer a=>exact (h a rfl).elim
 case slice a n c=>cases a<;>rfl
theorem L6.kept {v:Value} {bx:AS} (h:L6 H w v bx) {row:Option Nat} (hg:w.grownBy w' row) (hne:∀ b,DZ v=some b->bx.live=true->row≠some b) :
  L6 H w' v bx:=by
 cases bx with
 | var cs =>
  obtain ⟨b,c,el,rfl,hh,hc⟩:=h
  refine ⟨b,c,el,rfl,?_,hc⟩
  rw [hg.block b (Array.getElem?_eq_some_iff.1 hh).1 (fun e=>hne b rfl rfl e.symm)]
  exact hh
 | rows t K xs =>
  obtain ⟨flat,ho,hr⟩:=h
  refine ⟨flat,ho.kept hg ?_,hr⟩
  rcases ho.2 with ⟨rfl,_⟩ | ⟨g,cap,cur,rfl,_⟩
  ·exact .inl rfl
  ·right
   intro e
   exact hne g rfl rfl (by simpa [Value.ownBlock] using e.symm)
 | mrow t K xs =>
  obtain ⟨flat,ho,hr⟩:=h
  refine ⟨flat,ho.kept hg ?_,hr⟩
  rcases ho.2 with ⟨rfl,_⟩ | ⟨g,cap,cur,rfl,_⟩
  ·exact .inl rfl
  ·right
   intro e
   exact hne g rfl rfl (by simpa [Value.ownBlock] using e.symm)
 | byt t xs =>
  obtain ⟨g,cap,cur,fz,rfl,hgc,h1,h2⟩:=h
  refine ⟨g,cap,cur,fz,rfl,?_,h1,h2⟩
  rw [hg.block g (Array.getElem?_eq_some_iff.1 hgc).1 (fun e=>hne g rfl rfl e.symm)]
  exact hgc
 | frz K xs=>exact h
 | dead=>trivial
theorem sm {row:Option Nat} (hg:w.grownBy w' row) {b o:Nat} {u:Value} (hne:row≠some b) (h:w.cell? ⟨b,o,none⟩=some u):w'.cell? ⟨b,o,none⟩=some u:=by
 have hlt:b<w.heap.size:=by
  rcases B6 b w.heap.size with hl | hl
  ·exact hl
  ·simp [World.cell?,Array.getElem?_eq_none hl] at h
 simp only [World.cell?] at h ⊢
 rw [hg.block b hlt (fun e=>hne e.symm)]
 exact h
theorem VW.of_VF {p:Value} {el:TypeId} {a:AV} {v:Value} (h:VF H a v):VW H p el a v:=by cases a<;>first | exact h | exact h.elim
theorem VW.mono {H':HP} (hH:H.le H') {p:Value} {el:TypeId} {a:AV} {v:Value} (h:VW H p el a v):VW H' p el a v:=by
 cases a with
 | int k n=>exact VF.mono hH (a:=.int k n) h
 | bool b=>exact VF.mono hH (a:=.bool b) h
 | str b=>exact VF.mono hH (a:=.str b) h
 | nil=>exact VF.mono hH (a:=.nil) h
 | lst K xs=>exact VF.mono hH (a:=.lst K xs) h
 | fn f caps=>exact VF.mono hH (a:=.fn f caps) h
 | clo f K x=>exact VF.mono hH (a:=.clo f K x) h
 | self T=>exact h
 | _=>first | trivial | exact h.elim
theorem VWs.of_VFs {p:Value} {el:TypeId} {aw:List AV} {vs:List Value} (h:I8 H aw vs):Aq (VW H p el) aw vs:=(Hi.1 h).imp fun _ _ h=>VW.of_VF h
theorem SR.grow (h:SR H φ st w) (hg:w.grownBy w' none):SR H φ st w' where
 hp b o hb:=by rw [hg.block b (HP.lt_of h.hp hb) (by simp)]; exact h.hp b o hb
 box id bx hid:=(h.box id bx hid).kept hg (fun _ _ _=>by simp)
 sep:=h.sep
 out:=h.out
 cell id cs hid o i ho:=by
  obtain ⟨h1,b,h2,h3⟩:=h.cell id cs hid o i ho
  exact ⟨h1,b,h2,sm hg (by simp) h3⟩
 tb:=h.tb
theorem SR.push (h:SR H φ st w) {v:Value} {bx:AS} (hb:L6 H w v bx)
  (hn:bx.live=true->∀ b,DZ v=some b->H b=none/\∀ i bi,st[i]? = some bi->bi.live=true->DZ (φ i)≠some b)
  (hc:∀ (cs:List AV),bx=AS.var cs->∀ (o i:Nat),cs[o]? = some (AV.row i)->(AN st i).isSome=true/\∃ b,v=.pointer (some ⟨b,0,none⟩)/\w.cell? ⟨b,o,none⟩=some (φ i)) :
  SR H (fun i=>if i=st.length then v else φ i) (st++[bx]) w where
 hp:=h.hp
 box id b0 hid:=by
  rcases Nat.lt_trichotomy id st.length with hl | hl | hl
  ·rw [BF hl] at hid
   simp only [Nat.ne_of_lt hl,if_false]
   exact h.box id b0 hid
  ·subst hl
   simp at hid
   subst hid
   simpa using hb
  ·rw [Ci (Nat.le_of_lt hl)] at hid
   rw [Dc (by simp; omega)] at hid
   cases hid
 sep i j bi bj hi hj li lj hij b hb':=by
  have key:∀ k bk,(st++[bx])[k]? = some bk->(k<st.length/\st[k]? = some bk)\/(k=st.length/\bk=bx):=by
   intro k bk hk
   rcases Nat.lt_trichotomy k st.length with hl | hl | hl
   ·rw [BF hl] at hk; exact .inl ⟨hl,hk⟩
   ·subst hl; simp at hk; exact .inr ⟨rfl,hk.symm⟩
   ·rw [Dc (by simp; omega)] at hk; cases hk
  rcases key i bi hi with ⟨h1,h2⟩ | ⟨h1,h2⟩<;>rcases key j bj hj with ⟨g1,g2⟩ | ⟨g1,g2⟩
  ·simp only [Nat.ne_of_lt h1,Nat.ne_of_lt g1,if_false] at hb' ⊢
   exact h.sep i j bi bj h2 g2 li lj hij b hb'
  ·subst g1; subst g2
   simp only [Nat.ne_of_lt h1,if_false,if_true] at hb' ⊢
   intro e
   exact (hn lj b e).2 i bi h2 li hb'
  ·subst h1; subst h2
   simp only [Nat.ne_of_lt g1,if_false,if_true] at hb' ⊢
   exact (hn li b hb').2 j bj g2 lj
  ·omega
 out i bi hi li b hb':=by
  rcases Nat.lt_trichotomy i st.length with hl | hl | hl
  ·rw [BF hl] at hi
   simp only [Nat.ne_of_lt hl,if_false] at hb'
   exact h.out i bi hi li b hb'
  ·subst hl
   simp at hi
   subst hi
   simp only [if_true] at hb'
   exact (hn li b hb').1
  ·rw [Dc (by simp; omega)] at hi; cases hi
 cell id cs hid o i ho:=by
  have up:∀ i,(AN st i).isSome=true->(AN (st++[bx]) i).isSome=true/\(if i=st.length then v else φ i)=φ i:=by
   intro i hi
   have hl:=La hi
   refine ⟨?_,by simp [Nat.ne_of_lt hl]⟩
   unfold AN at hi ⊢
   rw [BF hl]
   exact hi
  rcases Nat.lt_trichotomy id st.length with hl | hl | hl
  ·rw [BF hl] at hid
   obtain ⟨h1,b,h2,h3⟩:=h.cell id cs hid o i ho
   obtain ⟨u1,u2⟩:=up i h1
   refine ⟨u1,b,by simpa [Nat.ne_of_lt hl] using h2,?_⟩
   simp only [u2]; exact h3
  ·subst hl
   simp at hid
   obtain ⟨h1,b,h2,h3⟩:=hc cs hid o i ho
   obtain ⟨u1,u2⟩:=up i h1
   refine ⟨u1,b,by simpa using h2,?_⟩
   simp only [u2]; exact h3
  ·rw [Dc (by simp; omega)] at hid; cases hid
 tb:=h.tb
theorem SR.fresh (h:SR H φ st w) {b:Nat} (hb:w.heap.size<=b):H b=none/\∀ i bi,st[i]? = some bi->bi.live=true->DZ (φ i)≠some b:=by
 constructor
 ·cases hq:H b with
  | none=>rfl
  | some o=>have:=HP.lt_of h.hp hq; omega
 ·intro i bi hi li e
  have:=(h.box i bi hi).blk_lt li e
  omega
theorem SR.update (h:SR H φ st w) {id:Nat} {bx bx':AS} {v':Value} (hid:st[id]? = some bx) (hl:bx.live=true) (hg:w.grownBy w' (DZ (φ id)))
  (hb:L6 H w' v' bx') (hn:∀ b,DZ v'=some b->DZ (φ id)=some b\/w.heap.size<=b)
  (hr:∀ (k:Nat) (cs:List AV),st[k]? = some (AS.var cs)->∀ (o:Nat),cs[o]? = some (AV.row id)->v'=φ id/\(AN (st.set id bx') id).isSome=true)
  (hc:∀ (cs:List AV),bx'=AS.var cs->∀ (o i:Nat),cs[o]? = some (AV.row i)->i≠id/\(AN st i).isSome=true/\∃ b,v'=.pointer (some ⟨b,0,none⟩)/\w'.cell? ⟨b,o,none⟩=some (φ i)) :
  SR H (fun i=>if i=id then v' else φ i) (st.set id bx') w':=by
 have hlt:id<st.length:=(Aj.1 hid).1
 have hown:∀ b,DZ v'=some b->H b=none/\∀ j bj,st[j]? = some bj->bj.live=true->j≠id->DZ (φ j)≠some b:=by
  intro b hb'
  rcases hn b hb' with e | e
  ·exact ⟨h.out id bx hid hl b e,fun j bj hj lj hne=>h.sep id j bx bj hid hj hl lj (Ne.symm hne) b e⟩
  ·exact ⟨(h.fresh e).1,fun j bj hj lj _=>(h.fresh e).2 j bj hj lj⟩
 have get:∀ k,k≠id->(st.set id bx')[k]? = st[k]? := fun k hk=>by rw [BD]; simp [Ne.symm hk]
 have geti:(st.set id bx')[id]? = some bx':=by rw [BD]; simp [hlt]
 refine ⟨fun b o hb'=>?_,fun k bk hk=>?_,fun i j bi bj hi hj li lj hij b hb'=>?_,fun i bi hi li b hb'=>?_,fun k cs hk o i ho=>?_,h.tb⟩
 ·rw [hg.block b (HP.lt_of h.hp hb') (fun e=>by have:=h.out id bx hid hl b e.symm; rw [this] at hb'; cases hb')]
  exact h.hp b o hb'
 ·by_cases e:k=id
  ·subst e
   rw [geti] at hk
   cases hk
   simpa using hb
  ·rw [get k e] at hk
   simp only [e,if_false]
   exact (h.box k bk hk).kept hg fun b h1 h2=>fun e2=>h.sep k id bk bx hk hid h2 hl e b h1 e2
 ·by_cases ei:i=id
  ·subst ei
   have ej:j≠i:=Ne.symm hij
   rw [get j ej] at hj
   simp only [ej,if_false,if_true] at hb' ⊢
   exact (hown b hb').2 j bj hj lj ej
  ·rw [get i ei] at hi
   by_cases ej:j=id
   ·subst ej
    simp only [ei,if_false,if_true] at hb' ⊢
    intro e
    exact (hown b e).2 i bi hi li ei hb'
   ·rw [get j ej] at hj
    simp only [ei,ej,if_false] at hb' ⊢
    exact h.sep i j bi bj hi hj li lj hij b hb'
 ·by_cases ei:i=id
  ·subst ei
   simp only [if_true] at hb'
   exact (hown b hb').1
  ·rw [get i ei] at hi
   simp only [ei,if_false] at hb'
   exact h.out i bi hi li b hb'
 ·have kk:∀ i,i≠id->AN (st.set id bx') i=AN st i:=fun i hi=>by simp only [AN,get i hi]
  by_cases ek:k=id
  ·subst ek
   rw [geti] at hk
   cases hk
   obtain ⟨h0,h1,b,h2,h3⟩:=hc cs rfl o i ho
   exact ⟨by rw [kk i h0]; exact h1,b,by simpa using h2,by simp only [h0,if_false]; exact h3⟩
  ·rw [get k ek] at hk
   obtain ⟨h1,b,h2,h3⟩:=h.cell k cs hk o i ho
   have h4:=sm hg (fun e=>h.sep k id _ bx hk hid rfl hl ek b (by rw [h2]; rfl) e) h3
   by_cases ei:i=id
   ·subst ei
    obtain ⟨g1,g2⟩:=hr k cs hk o ho
    exact ⟨g2,b,by simpa [ek] using h2,by simp only [if_true,g1]; exact h4⟩
   ·exact ⟨by rw [kk i ei]; exact h1,b,by simpa [ek] using h2,by simp only [ei,if_false]; exact h4⟩
theorem cM {id:Nat} {bx':AS} {v':Value} (hk:AN (st.set id bx') id=AN st id) (hv:Ak (st.set id bx') id=Ak st id) (hh:AW (st.set id bx') id=AW st id) (he:v'=φ id) :
  By φ st (fun i=>if i=id then v' else φ i) (st.set id bx') none:=by
 intro i _ _
 by_cases e:i=id
 ·subst e
  exact ⟨by simp [he],hk,hv,hh⟩
 ·refine ⟨by simp [e],?_,?_,?_⟩
  ·simp [AN,BD,Ne.symm e]
  ·simp [Ak,BD,Ne.symm e]
  ·simp [AW,BD,Ne.symm e]
theorem Rc {K:Kd} {xs:List K.T} {flat:List Value} (hr:Dx H K xs flat) (hl:flat.length=xs.length*K.sz) {j:Nat} {x:K.T} (hx:xs[j]? = some x) :
  ∃ cs,GN H K x cs/\cs.length=K.sz/\∀ i u,cs[i]? = some u->flat[j*K.sz+i]? = some u:=by
 have h:=hr j x hx
 refine ⟨_,h,h.length,fun i u hu=>?_⟩
 rw [Bz] at hu
 split at hu
 ·simpa using hu
 ·cases hu
theorem Zw {k:IntKind}:∀ {xs:List Int} {flat:List Value},Dx H (.int k) xs flat->flat.length=xs.length*1->flat=xs.map (.int k)
 | [],flat,_,hl=>by
  have:flat=[]:=DV.1 (by simpa using hl)
  subst this; rfl
 | x::xs,flat,h,hl=>by
  cases flat with
  | nil=>simp at hl
  | cons a r =>
   have h0:GN H (.int k) x ((a::r).take 1):=h 0 x rfl
   have h0:[a]=[.int k x]:=h0
   cases h0
   have:=Zw (xs:=xs) (flat:=r) (fun j y hy=>by have:=h (j+1) y (by simpa using hy); simpa [Kd.sz] using this) (by simp at hl ⊢; omega)
   rw [this]; rfl
theorem S9 {k:IntKind} {xs:List Int}:Dx H (.int k) xs (xs.map (.int k)):=by
 intro j x hx
 have hj:j<xs.length:=(Aj.1 hx).1
 have:((xs.map (Value.int k)).drop (j*(Kd.int k).sz)).take (Kd.int k).sz=[.int k x]:=by
  simp only [Kd.sz,Nat.mul_one]
  rw [List.drop_eq_getElem_cons (by simpa using hj)]
  simp [(Aj.1 hx).2]
 rw [this]
 rfl
theorem tX.flat {t:TypeId} {v:Value} {xs:List Int} (h:tX w t v xs):∃ g cap,v=.slice (some ⟨g,0,none⟩) xs.length cap/\∀ (j:Nat) (u:Value),(xs.map (Value.int .u8))[j]? = some u->w.cell? ⟨g,j,none⟩=some u:=by
 obtain ⟨g,cap,cur,fz,e,hg,_,_,hc⟩:=h
 refine ⟨g,cap,e,fun j u hu=>?_⟩
 rw [CT] at hu
 cases hx:xs[j]? with
 | none=>rw [hx] at hu; cases hu
 | some x =>
  rw [hx] at hu
  cases hu
  have:=hc j x hx
  simpa [World.cell?,hg] using this
theorem SR.freeze (h:SR H φ st w) {id:Nat} {t:TypeId} {K:Kd} {xs:List K.T} (hid:st[id]? = some (.rows t K xs)) :
  ∃ H',H.le H'/\SR H' φ (st.set id (.frz K xs)) w/\ZR (GN H' K) K.sz H' xs (φ id)/\∀ b,DZ (φ id)≠some b->H' b=H b:=by
 have hlt:id<st.length:=(Aj.1 hid).1
 obtain ⟨flat,ho,hr⟩:=h.box id _ hid
 let H':HP:=fun b=>if DZ (φ id)=some b then w.heap[b]? else H b
 have hle:H.le H':=by
  intro b o hb
  by_cases e:DZ (φ id)=some b
  ·have:=h.out id _ hid rfl b e
   rw [this] at hb
   cases hb
  ·simp only [H',e,if_false]
   exact hb
 have hread:ZR (GN H' K) K.sz H' xs (φ id):=by
  rcases ho.2 with ⟨e,hn⟩ | ⟨g,cap,cur,e,_,hg,hc,hm,hs,ht⟩
  ·have:xs=[]:=DV.1 hn
   subst this
   rw [e]
   exact Ve
  ·refine ⟨some ⟨g,0,none⟩,cap,e,hc,.inr ⟨g,0,cur,t,(0,0),rfl,?_,fun j x hx=>?_⟩⟩
   ·simp [H',e,DZ,hg]
   ·obtain ⟨cs,h1,h2,h3⟩:=Rc hr ho.1 hx
    refine ⟨cs,h1.mono hle,h2,fun i u hu=>?_⟩
    have:=h3 i u hu
    rw [<- ht,Bz] at this
    split at this
    ·simpa using this
    ·cases this
 have get:∀ k,k≠id->(st.set id (.frz K xs))[k]? = st[k]? := fun k hk=>by rw [BD]; simp [Ne.symm hk]
 have geti:(st.set id (.frz K xs))[id]? = some (.frz K xs):=by rw [BD]; simp [hlt]
 refine ⟨H',hle,⟨fun b o hb=>?_,fun k bk hk=>?_,fun i j bi bj hi hj li lj hij=>?_,fun i bi hi li b hb=>?_,fun k cs hk o i ho=>?_,h.tb.le hle⟩,hread,fun b e=>by simp [H',e]⟩
 ·by_cases e:DZ (φ id)=some b
  ·simpa [H',e] using hb
  ·simp only [H',e,if_false] at hb
   exact h.hp b o hb
 ·by_cases e:k=id
  ·subst e
   rw [geti] at hk
   cases hk
   refine ⟨hread,fun a n cap e2=>?_⟩
   rcases ho.2 with ⟨e,_⟩ | ⟨g,cap',cur,e,_⟩
   ·rw [e] at e2; cases e2
   ·rw [e] at e2; cases e2; exact ⟨rfl,rfl⟩
  ·rw [get k e] at hk
   have:=h.box k bk hk
   cases bk with
   | var cs=>obtain ⟨b,c,el,e1,e2,e3⟩:=this; exact ⟨b,c,el,e1,e2,e3.imp fun _ _ h=>h.mono hle⟩
   | rows t' K' xs'=>obtain ⟨flat',o',r'⟩:=this; exact ⟨flat',o',fun j x hx=>(r' j x hx).mono hle⟩
   | mrow t' K' xs'=>obtain ⟨flat',o',r'⟩:=this; exact ⟨flat',o',fun j x hx=>(r' j x hx).mono hle⟩
   | byt t' xs'=>exact this
   | frz K' xs'=>obtain ⟨r',a'⟩:=this; exact ⟨OL (fun _ _ h=>GN.mono hle h) hle r',a'⟩
   | dead=>trivial
 ·by_cases ei:i=id
  ·subst ei; rw [geti] at hi; cases hi; cases li
  ·by_cases ej:j=id
   ·subst ej; rw [geti] at hj; cases hj; cases lj
   ·rw [get i ei] at hi
    rw [get j ej] at hj
    exact h.sep i j bi bj hi hj li lj hij
 ·by_cases ei:i=id
  ·subst ei; rw [geti] at hi; cases hi; cases li
  ·rw [get i ei] at hi
   have e:DZ (φ id)≠some b:=fun e=>h.sep i id bi _ hi hid li rfl ei b hb e
   simp only [H',e,if_false]
   exact h.out i bi hi li b hb
 ·by_cases ek:k=id
  ·subst ek; rw [geti] at hk; cases hk
  ·rw [get k ek] at hk
   obtain ⟨h1,b,h2,h3⟩:=h.cell k cs hk o i ho
   refine ⟨?_,b,h2,h3⟩
   by_cases ei:i=id
   ·subst ei; unfold AN; rw [geti]; rfl
   ·unfold AN at h1 ⊢; rw [get i ei]; exact h1
theorem gP {id:Nat} {t:TypeId} {K:Kd} {xs:List K.T} (hid:st[id]? = some (.rows t K xs)):By φ st φ (st.set id (.frz K xs)) none:=by
 have hlt:id<st.length:=(Aj.1 hid).1
 intro i _ _
 by_cases e:i=id
 ·subst e
  have e2:(st.set i (AS.frz K xs))[i]? = some (.frz K xs):=by rw [BD]; simp [hlt]
  refine ⟨rfl,?_,?_,?_⟩
  ·simp only [AN,hid,e2]
  ·simp only [Ak,hid,e2]
  ·simp only [AW,hid,e2]; rfl
 ·refine ⟨rfl,?_,?_,?_⟩
  ·simp [AN,BD,Ne.symm e]
  ·simp [Ak,BD,Ne.symm e]
  ·simp [AW,BD,Ne.symm e]
def Vf (g:AV->AV):AS->AS
 | .var cs=>.var (cs.map g)
 | b=>b
theorem rz (g:AV->AV):OM (Vf g):=fun b=>by
 cases b<;>first | exact .inl ⟨_,_,rfl,rfl⟩ | exact .inr ⟨rfl,by simp⟩
theorem SR.forget (h:SR H φ st w) {g:AV->AV} (hg:∀ c,g c=c\/(∃ i,g c=.was i)\/g c=.undef):SR H φ (st.map (Vf g)) w:=by
 have get:∀ (k:Nat) (b:AS),(st.map (Vf g))[k]? = some b->∃ b0,st[k]? = some b0/\b=Vf g b0/\(b.live=b0.live):=by
  intro k b hk
  rw [CT] at hk
  cases hb:st[k]? with
  | none=>rw [hb] at hk; cases hk
  | some b0 =>
   rw [hb] at hk
   cases hk
   exact ⟨b0,rfl,rfl,by cases b0<;>rfl⟩
 refine ⟨h.hp,fun k b hk=>?_,fun i j bi bj hi hj li lj hij=>?_,fun i bi hi li=>?_,fun k cs hk o i ho=>?_,h.tb⟩
 ·obtain ⟨b0,h1,rfl,_⟩:=get k b hk
  have:=h.box k b0 h1
  cases b0 with
  | var cs =>
   obtain ⟨b,c,el,e1,e2,e3⟩:=this
   refine ⟨b,c,el,e1,e2,e3.map fun a v hv=>?_⟩
   rcases hg a with e | ⟨i,e⟩ | e
   ·rw [e]; exact hv
   ·rw [e]; trivial
   ·rw [e]; trivial
  | _=>exact this
 ·obtain ⟨b0,h1,_,l1⟩:=get i bi hi
  obtain ⟨b1,h2,_,l2⟩:=get j bj hj
  exact h.sep i j b0 b1 h1 h2 (l1▸li) (l2▸lj) hij
 ·obtain ⟨b0,h1,_,l1⟩:=get i bi hi
  exact h.out i b0 h1 (l1▸li)
 ·obtain ⟨b0,h1,e,_⟩:=get k _ hk
  cases b0 with
  | var cs0 =>
   cases e
   rw [CT] at ho
   cases hc:cs0[o]? with
   | none=>rw [hc] at ho; cases ho
   | some c =>
    rw [hc] at ho
    simp only [Option.map_some,BG] at ho
    rcases hg c with e | ⟨j,e⟩ | e
    ·rw [e] at ho
     subst ho
     obtain ⟨g1,g2⟩:=h.cell k cs0 h1 o i hc
     exact ⟨by rw [Gr (rz g)]; exact g1,g2⟩
    ·rw [e] at ho; cases ho
    ·rw [e] at ho; cases ho
  | _=>cases e
theorem zD (ids:List Nat):AS.kill ids=Vf (AV.killB ids):=by funext b; cases b<;>rfl
theorem uz (ids:List Nat) (c:AV):AV.killB ids c=c\/(∃ i,AV.killB ids c=.was i)\/AV.killB ids c=.undef:=by
 cases c with
 | row i =>
  simp only [AV.killB]
  split
  ·exact .inr (.inl ⟨i,rfl⟩)
  ·exact .inl rfl
 | _=>exact .inl rfl
theorem SR.kill (h:SR H φ st w) (ids:List Nat):SR H φ (st.map (AS.kill ids)) w:=by
 rw [zD]; exact h.forget (uz ids)
theorem xz (n:Nat):AS.older n=Vf (AV.olderC n):=by funext b; cases b<;>rfl
theorem SR.older (h:SR H φ st w) (n:Nat):SR H φ (st.map (AS.older n)) w:=by
 rw [xz]
 refine h.forget fun c=>?_
 cases c with
 | row i =>
  simp only [AV.olderC]
  split
  ·exact .inl rfl
  ·exact .inr (.inr rfl)
 | _=>exact .inl rfl
theorem RZ {ids:List Nat} {k:Nat} {cs:List AV} (h:(st.map (AS.kill ids))[k]? = some (.var cs)) {o i:Nat} (ho:cs[o]? = some (.row i)):Bx ids i=false:=by
 rw [CT] at h
 cases hb:st[k]? with
 | none=>rw [hb] at h; cases h
 | some b =>
  rw [hb] at h
  cases b with
  | var cs0 =>
   cases h
   rw [CT] at ho
   cases hc:cs0[o]? with
   | none=>rw [hc] at ho; cases ho
   | some c =>
    rw [hc] at ho
    simp only [Option.map_some,BG] at ho
    cases c<;>simp only [AV.killB] at ho<;>try cases ho
    split at ho
    ·cases ho
    ·rename_i hn
     cases ho
     simpa using hn
  | _=>cases h
end Go.Proofs.YtfcgblnlopemkaaGreatDoor.Core

namespace Go.Proofs.YtfcgblnlopemkaaGreatDoor.Core
open Go
variable {H:HP} {φ:CG} {st:List AS} {w:World}
theorem VF.cells {a:AV} {v:Value} (h:VF H a v):v.cells=#[v]:=by
 cases a with
 | int k n=>simp only [VF] at h; subst h; rfl
 | bool b=>simp only [VF] at h; subst h; rfl
 | str s=>simp only [VF] at h; subst h; rfl
 | nil=>simp only [VF] at h; subst h; rfl
 | lst K xs=>obtain ⟨a,cap,e,_⟩:=h; subst e; rfl
 | fn f caps=>obtain ⟨_,e⟩:=h; subst e; rfl
 | clo f K x=>obtain ⟨b,o,c,el,fz,e,_⟩:=h; subst e; rfl
 | _=>exact h.elim
theorem Kd.sz_pos:∀ K:Kd,0<K.sz
 | .int _=>Nat.one_pos
 | .bool=>Nat.one_pos
 | .str=>Nat.one_pos
 | .slice _=>Nat.one_pos
 | .pair a b=>by have:=Kd.sz_pos a; simp only [Kd.sz]; omega
 | .own _ _=>Nat.one_pos
 | .ref _=>Nat.one_pos
 | .fun _=>Nat.one_pos
 | .clo _ _=>Nat.one_pos
theorem sn {K:Kd} {xs:List K.T} {v:Value} (hp:∀ b o,H b=some o->w.heap[b]? = some o) (h:ZR (GN H K) K.sz H xs v) :
  ∃ sl cap flat,v=.slice sl xs.length cap/\xs.length<=cap/\flat.length=xs.length*K.sz/\Dx H K xs flat /\
   (xs=[]\/∃ b off c el fz,sl=some ⟨b,off,none⟩/\H b=some (.cells c el fz)/\(∀ j u,flat[j]? = some u->c[off+j]? = some u)):=by
 obtain ⟨sl,cap,e,hc,hr⟩:=h
 rcases hr with rfl | ⟨b,off,c,el,fz,ea,hb,hr⟩
 ·exact ⟨sl,cap,[],e,hc,by simp,fun j x hx=>by simp at hx,.inl rfl⟩
 ·refine ⟨sl,cap,(c.toList.drop off).take (xs.length*K.sz),e,hc,?_,?_,.inr ⟨b,off,c,el,fz,ea,hb,?_⟩⟩
  ·have hsz:=Kd.sz_pos K
   rcases Nat.eq_zero_or_pos xs.length with h0 | h0
   ·simp [h0]
   ·obtain ⟨cs,h1,h2,h3⟩:=hr (xs.length-1) (xs[xs.length-1]'(by omega)) (by simp)
    have hlast:=h3 (K.sz-1) (cs[K.sz-1]'(by omega)) (by simp)
    have hlt:off+(xs.length-1)*K.sz+(K.sz-1)<c.size:=by
     have:=(Array.getElem?_eq_some_iff.1 hlast).1
     exact this
    have e2:(xs.length-1)*K.sz+K.sz=xs.length*K.sz:=by
     rw [<- Nat.succ_mul]; congr 1; omega
    simp only [List.length_take,List.length_drop,Array.length_toList]
    omega
  ·intro j x hx
   obtain ⟨cs,h1,h2,h3⟩:=hr j x hx
   have hj:j<xs.length:=(Aj.1 hx).1
   have e3:((((c.toList.drop off).take (xs.length*K.sz)).drop (j*K.sz)).take K.sz)=cs:=by
    apply List.ext_getElem?
    intro i
    rcases B6 i K.sz with hi | hi
    ·have hci:cs[i]? = some (cs[i]'(by omega)):=by simp
     have:=h3 i _ hci
     have hlt2:j*K.sz+i<xs.length*K.sz:=by
      have:(j+1)*K.sz<=xs.length*K.sz:=CH _ hj
      rw [Nat.succ_mul] at this
      omega
     rw [hci,Bz,if_pos hi,C3,Bz,if_pos hlt2,C3,Array.getElem?_toList]
     rw [show off+(j*K.sz+i)=off+j*K.sz+i by omega]
     exact this
    ·rw [Bz,if_neg (by omega),Dc (by omega)]
   rw [e3]
   exact h1
  ·intro j u hu
   rw [Bz] at hu
   split at hu
   ·rw [C3,Array.getElem?_toList] at hu
    exact hu
   ·cases hu
theorem tY {ρ:Type} {s:St} {a:AV} {v:Value} {K:Kd} {kn:List K.T->Option ρ} {r:ρ} (hs:SR H φ s.st w) (hv:VC H φ s.st a v) (h:s.list a K kn=some r) :
  ∃ xs,kn xs=some r/\∃ sl cap flat,v=.slice sl xs.length cap/\flat.length=xs.length*K.sz/\Dx H K xs flat /\
   (sl=none\/xs=[]\/∃ b off,sl=some ⟨b,off,none⟩/\∀ j u,flat[j]? = some u->w.cell? ⟨b,off+j,none⟩=some u)/\(sl=none->xs=[]):=by
 have frozen:∀ (xs:List K.T) v,ZR (GN H K) K.sz H xs v->∃ sl cap flat,v=.slice sl xs.length cap/\flat.length=xs.length*K.sz/\Dx H K xs flat /\
   (sl=none\/xs=[]\/∃ b off,sl=some ⟨b,off,none⟩/\∀ j u,flat[j]? = some u->w.cell? ⟨b,off+j,none⟩=some u)/\(sl=none->xs=[]):=by
  intro xs v hr
  obtain ⟨sl,cap,flat,e,_,hl,hrr,hc⟩:=sn hs.hp hr
  refine ⟨sl,cap,flat,e,hl,hrr,?_,?_⟩
  ·rcases hc with h0 | ⟨b,off,c,el,fz,e1,e2,e3⟩
   ·exact .inr (.inl h0)
   ·refine .inr (.inr ⟨b,off,e1,fun j u hu=>?_⟩)
    simp only [World.cell?,hs.hp _ _ e2]
    simpa using e3 j u hu
  ·intro e0
   rcases hc with h0 | ⟨b,off,c,el,fz,e1,_⟩
   ·exact h0
   ·rw [e0] at e1; cases e1
 cases a with
 | nil =>
  simp only [St.list] at h
  simp only [VC,VF] at hv
  subst hv
  exact ⟨[],h,none,0,[],rfl,by simp,fun j x hx=>by simp at hx,.inl rfl,fun _=>rfl⟩
 | lst K' xs =>
  simp only [St.list] at h
  split at h
  ·rename_i hk
   subst hk
   exact ⟨xs,h,frozen xs v hv⟩
  ·cases h
 | row id =>
  simp only [St.list] at h
  obtain ⟨e,_⟩:=hv
  subst e
  cases hb:s.st[id]? with
  | none=>rw [hb] at h; cases h
  | some bx =>
   rw [hb] at h
   have hbox:=hs.box id bx hb
   cases bx with
   | rows t K' xs =>
    simp only at h
    split at h
    ·rename_i hk
     subst hk
     obtain ⟨flat,ho,hr⟩:=hbox
     refine ⟨xs,h,?_⟩
     rcases ho.2 with ⟨e,hn⟩ | ⟨g,cap,cur,e,_,hg,hc,hm,hsz,ht⟩
     ·have h0:xs=[]:=DV.1 hn
      subst h0
      exact ⟨none,0,flat,by rw [e]; rfl,ho.1,hr,.inl rfl,fun _=>rfl⟩
     ·refine ⟨some ⟨g,0,none⟩,cap,flat,e,ho.1,hr,.inr (.inr ⟨g,0,rfl,fun j u hu=>?_⟩),fun e0=>by cases e0⟩
      have:=ho.cells (g:=g) (by rw [e]; rfl) j u hu
      have hadd:(⟨g,0,none⟩:Addr).add j=⟨g,0+j,none⟩:=by unfold Addr.add; split<;>simp_all
      rw [hadd] at this
      exact this
    ·cases h
   | byt t xs =>
    simp only at h
    split at h
    ·rename_i hk
     subst hk
     obtain ⟨g,cap,e,hc⟩:=tX.flat hbox
     exact ⟨xs,h,some ⟨g,0,none⟩,cap,xs.map (.int .u8),e,by simp [Kd.sz],S9,.inr (.inr ⟨g,0,rfl,fun j u hu=>by rw [Nat.zero_add]; exact hc j u hu⟩),fun e0=>by cases e0⟩
    ·cases h
   | mrow t K' xs =>
    simp only at h
    split at h
    ·rename_i hk
     subst hk
     obtain ⟨flat,ho,hr⟩:=hbox
     refine ⟨xs,h,?_⟩
     rcases ho.2 with ⟨e,hn⟩ | ⟨g,cap,cur,e,_,hg,hc,hm,hsz,ht⟩
     ·have h0:xs=[]:=DV.1 hn
      subst h0
      exact ⟨none,0,flat,by rw [e]; rfl,ho.1,hr,.inl rfl,fun _=>rfl⟩
     ·refine ⟨some ⟨g,0,none⟩,cap,flat,e,ho.1,hr,.inr (.inr ⟨g,0,rfl,fun j u hu=>?_⟩),fun e0=>by cases e0⟩
      have:=ho.cells (g:=g) (by rw [e]; rfl) j u hu
      have hadd:(⟨g,0,none⟩:Addr).add j=⟨g,0+j,none⟩:=by unfold Addr.add; split<;>simp_all
      rw [hadd] at this
      exact this
    ·cases h
   | frz K' xs =>
    simp only at h
    split at h
    ·rename_i hk
     subst hk
     exact ⟨xs,h,frozen xs _ hbox.1⟩
    ·cases h
   | var cs=>cases h
   | dead=>cases h
 | _=>cases h
end Go.Proofs.YtfcgblnlopemkaaGreatDoor.Core

namespace Go.Proofs.YtfcgblnlopemkaaGreatDoor.Core
open Go
variable {H:HP} {φ:CG} {st:List AS} {w:World} {P:Program}
theorem cN {s:St} {a:AV} {v:Value} {cs:List AV} {off:Nat} (hs:SR H φ s.st w) (hv:VC H φ s.st a v) (h:s.behind a=some (cs,off)) :
  ∃ b o vs,v=.pointer (some ⟨b,o+off,none⟩)/\Aq (VC H φ s.st) cs vs/\w.rangeAt b o vs:=by
 cases a with
 | fptr cs' off' =>
  cases h
  obtain ⟨b,o,c,el,fz,e,hb,vs,h1,h2⟩:=hv
  refine ⟨b,o,vs,e,(Hi.1 h1).imp fun _ _ h=>VC.of_VF h,fun j u hu=>?_⟩
  simp only [World.cell?,hs.hp _ _ hb]
  simpa using h2 j u hu
 | ptr id off' =>
  obtain ⟨_,b,e1,e2⟩:=hv
  simp only [St.behind] at h
  cases hb:s.st[id]? with
  | none=>rw [hb] at h; cases h
  | some bx =>
   rw [hb] at h
   cases bx with
   | var cs' =>
    cases h
    obtain ⟨b',c,el,e3,hh,hc⟩:=hs.box id _ hb
    rw [e1] at e3
    cases e3
    refine ⟨b,0,c.toList,by rw [e2]; simp,S8 hc.length fun j a u ha hu=>?_,fun j u hu=>?_⟩
    ·have hw:=hc.at ha hu
     cases a with
     | row i =>
      obtain ⟨g1,b2,g2,g3⟩:=hs.cell id _ hb j i ha
      rw [e1] at g2
      cases g2
      simp only [World.cell?,hh] at g3
      rw [Array.getElem?_toList] at hu
      simp only [Option.isSome_none,Bool.false_eq_true,if_false] at g3
      rw [hu] at g3
      cases g3
      exact ⟨rfl,g1⟩
     | was i=>trivial
     | self T=>trivial
     | undef=>trivial
     | _=>exact VC.of_VF hw
    simp only [World.cell?,hh]
    simpa using hu
   | _=>cases h
 | eptr id i off' =>
  obtain ⟨b,n,cap,K,hk,hi,e1,e2⟩:=hv
  simp only [St.behind] at h
  cases hb:s.st[id]? with
  | none=>rw [hb] at h; cases h
  | some bx =>
   rw [hb] at h
   cases bx with
   | rows t K' xs =>
    cases h
    simp only [AN,hb,BG,Prod.mk.injEq] at hk
    obtain ⟨rfl,rfl⟩:=hk
    obtain ⟨flat,ho,hr⟩:=hs.box id _ hb
    have hx:xs[i]? = some (xs.getD i K'.zero):=by simp [List.getD,hi]
    obtain ⟨vs,r1,r2,r3⟩:=Rc hr ho.1 hx
    refine ⟨b,i*K'.sz,vs,e2,(Hi.1 (I8.of_rep r1)).imp fun _ _ h=>VC.of_VF h,fun j u hu=>?_⟩
    have:=ho.cells (g:=b) (by rw [e1]; rfl) (i*K'.sz+j) u (r3 j u hu)
    rw [Addr.add_mid] at this
    simpa using this
   | byt t xs =>
    cases h
    simp only [AN,hb,BG,Prod.mk.injEq] at hk
    obtain ⟨rfl,rfl⟩:=hk
    obtain ⟨g,cap',e3,hc⟩:=tX.flat (hs.box id _ hb)
    rw [e1] at e3
    cases e3
    refine ⟨b,i*1,[.int .u8 (xs.getD i (Kd.int .u8).zero)],by rw [e2]; rfl,⟨_,_,rfl,rfl,rfl⟩,fun j u hu=>?_⟩
    match j,hu with
    | 0,hu =>
     cases hu
     simpa using hc i _ (by simp [List.getD,hi])
   | mrow t K' xs =>
    cases h
    simp only [AN,hb,BG,Prod.mk.injEq] at hk
    obtain ⟨rfl,rfl⟩:=hk
    obtain ⟨flat,ho,hr⟩:=hs.box id _ hb
    have hx:xs[i]? = some (xs.getD i K'.zero):=by simp [List.getD,hi]
    obtain ⟨vs,r1,r2,r3⟩:=Rc hr ho.1 hx
    refine ⟨b,i*K'.sz,vs,e2,(Hi.1 (I8.of_rep r1)).imp fun _ _ h=>VC.of_VF h,fun j u hu=>?_⟩
    have:=ho.cells (g:=b) (by rw [e1]; rfl) (i*K'.sz+j) u (r3 j u hu)
    rw [Addr.add_mid] at this
    simpa using this
   | frz K' xs =>
    cases h
    simp only [AN,hb,BG,Prod.mk.injEq] at hk
    obtain ⟨rfl,rfl⟩:=hk
    obtain ⟨hr,ha⟩:=hs.box id _ hb
    obtain ⟨sl,cap',e3,_,hr⟩:=hr
    have hx:xs[i]? = some (xs.getD i K'.zero):=by simp [List.getD,hi]
    rcases hr with h0 | ⟨b',o',c,el,fz,e4,e5,e6⟩
    ·rw [h0] at hi; simp at hi
    ·obtain ⟨vs,r1,r2,r3⟩:=e6 i _ hx
     rw [e1] at e3
     simp only [Value.slice.injEq] at e3
     rw [e4] at e3
     obtain ⟨e7,_⟩:=e3
     simp only [BG,Addr.mk.injEq] at e7
     obtain ⟨rfl,rfl,_⟩:=e7
     refine ⟨b,i*K'.sz,vs,e2,(Hi.1 (I8.of_rep r1)).imp fun _ _ h=>VC.of_VF h,fun j u hu=>?_⟩
     have:=r3 j u hu
     simp only [World.cell?,hs.hp _ _ e5]
     simpa using this
   | _=>cases h
 | _=>cases h
def xF (P:Program) (t:TypeId) (n:Nat):Bool:=(P.info? t).map (·.size)==some n
def Zx (P:Program) (t:TypeId) (b:Bool):Bool :=
 match P.underlying t with
 | some (.struct _)=>b
 | some (.array _ _)=>b
 | some _=>!b
 | none=>false
theorem Rd {t:TypeId} {n:Nat} (h:xF P t n=true):(P.info? t).map (·.size)=some n:=by simpa [xF] using h
theorem kA {t:TypeId} (h:Zx P t true=true):∃ d,P.underlying t=some d/\d.isRow=true:=by
 unfold Zx at h
 cases hu:P.underlying t with
 | none=>simp [hu] at h
 | some d=>refine ⟨d,rfl,?_⟩; rw [hu] at h; cases d<;>simp_all [TypeDesc.isRow]
theorem pI {t:TypeId} (h:Zx P t false=true):∃ d,P.underlying t=some d/\d.isRow=false:=by
 unfold Zx at h
 cases hu:P.underlying t with
 | none=>simp [hu] at h
 | some d=>refine ⟨d,rfl,?_⟩; rw [hu] at h; cases d<;>simp_all [TypeDesc.isRow]
theorem X8 {b o:Nat} {t:TypeId} {u:Value} (hc:w.cell? ⟨b,o,none⟩=some u) (ht:Zx P t false=true) :
  (loadVar t ⟨b,o,none⟩).run P w=.ok u w:=by
 obtain ⟨d,hu,hd⟩:=pI ht
 have hagg:(isAgg t).run P w=.ok false w:=by
  unfold isAgg
  rw [Sem.run_bind,run_underlying hu w]
  cases d<;>simp_all [TypeDesc.isRow]
 simp [loadVar,Sem.run_bind,hagg,run_load,hc]
theorem tZ {w w2:World} {b o:Nat} {vs:List Value} (h:w.rangeAt b o vs) (e:w2.heap[b]? = w.heap[b]?):w2.rangeAt b o vs:=by
 intro j u hu
 have:=h j u hu
 simp only [World.cell?] at this ⊢
 rw [e]
 exact this
theorem ta {s:St} {a:AV} {v:Value} {cs:List AV} {off:Nat} (hs:SR H φ s.st w) (hv:VC H φ s.st a v) (h:s.behind a=some (cs,off))
  {n:Option Nat} (hn:off+n.getD 1<=cs.length) {t:TypeId} (ht:(match n with | some k=>xF P t k&&Zx P t true | none=>Zx P t false)=true) :
  ∃ u,(∀ w2:World,(∀ b,DZ v=some b->w2.heap[b]? = w.heap[b]?)->(Instr.loadAt t v).run P w2=.ok u w2)/\VA H φ s.st (part cs off n) u:=by
 obtain ⟨b,o,vs,rfl,h1,h2⟩:=cN hs hv h
 cases n with
 | some k =>
  simp only [AC] at ht
  simp only [Option.getD_some] at hn
  obtain ⟨d,hu,hd⟩:=kA ht.2
  have h3:=(h1.drop off).take k
  have hl:((vs.drop off).take k).length=k:=by
   have:=h1.length
   simp only [List.length_take,List.length_drop]
   omega
  have hr:w.rangeAt b (o+off) ((vs.drop off).take k):=by
   intro j u hu
   rw [Bz] at hu
   split at hu
   ·rw [C3] at hu
    have:=h2 _ _ hu
    rwa [<- Nat.add_assoc] at this
   ·cases hu
  refine ⟨_,fun w2 h2=>run_loadAt_mid w2 b (o+off) t _ d (tZ hr (h2 b rfl)) hu hd (by rw [hl]; exact Rd ht.1),?_⟩
  exact ⟨_,rfl,by simpa using h3⟩
 | none =>
  simp only [Option.getD_none] at hn
  obtain ⟨x,hx⟩:∃ x,cs[off]? = some x:=⟨cs[off]'(by omega),by simp⟩
  obtain ⟨u,hu,hf⟩:=h1.get off x hx
  have hc:=h2 off u hu
  refine ⟨u,fun w2 hw2=>?_,?_⟩
  ·have hc2:w2.cell? ⟨b,o+off,none⟩=some u:=by
    simp only [World.cell?] at hc ⊢
    rw [hw2 b rfl]
    exact hc
   simp only [Instr.loadAt,Instr.sureAddr,Sem.run_bind,Sem.run_pure,Result.andThen_ok,X8 hc2 ht]
  ·have e:part cs off none=x:=by
    simp only [part]
    rw [List.headD_eq_head?_getD,List.head?_drop,hx]
    rfl
   rw [e]
   exact VA.of_VC hf
theorem mw {s:St} {a:AV} {v:Value} {cs:List AV} {off:Nat} (hs:SR H φ s.st w) (hv:VC H φ s.st a v) (h:s.behind a=some (cs,off))
  {n:Option Nat} (hn:off+n.getD 1<=cs.length) {t:TypeId} (ht:(match n with | some k=>xF P t k&&Zx P t true | none=>Zx P t false)=true) :
  ∃ u,(Instr.loadAt t v).run P w=.ok u w/\VA H φ s.st (part cs off n) u:=by
 obtain ⟨b,o,vs,rfl,h1,h2⟩:=cN hs hv h
 cases n with
 | some k =>
  simp only [AC] at ht
  simp only [Option.getD_some] at hn
  obtain ⟨d,hu,hd⟩:=kA ht.2
  have h3:=(h1.drop off).take k
  have hl:((vs.drop off).take k).length=k:=by
   have:=h1.length
   simp only [List.length_take,List.length_drop]
   omega
  have hr:w.rangeAt b (o+off) ((vs.drop off).take k):=by
   intro j u hu
   rw [Bz] at hu
   split at hu
   ·rw [C3] at hu
    have:=h2 _ _ hu
    rwa [<- Nat.add_assoc] at this
   ·cases hu
  refine ⟨_,run_loadAt_mid w b (o+off) t _ d hr hu hd (by rw [hl]; exact Rd ht.1),?_⟩
  exact ⟨_,rfl,by simpa using h3⟩
 | none =>
  simp only [Option.getD_none] at hn
  obtain ⟨x,hx⟩:∃ x,cs[off]? = some x:=⟨cs[off]'(by omega),by simp⟩
  obtain ⟨u,hu,hf⟩:=h1.get off x hx
  have hc:=h2 off u hu
  refine ⟨u,?_,?_⟩
  ·simp only [Instr.loadAt,Instr.sureAddr,Sem.run_bind,Sem.run_pure,Result.andThen_ok,X8 hc ht]
  ·have e:part cs off none=x:=by
    simp only [part]
    rw [List.headD_eq_head?_getD,List.head?_drop,hx]
    rfl
   rw [e]
   exact VA.of_VC hf
end Go.Proofs.YtfcgblnlopemkaaGreatDoor.Core

namespace Go.Proofs.YtfcgblnlopemkaaGreatDoor.Core
open Go
structure Fr (mv m0:Nat) (H0:HP) (φ0:CG) (w0:World) (H:HP) (φ:CG) (st:List AS) (w:World):Prop where
 os:w.os=w0.os
 tape:w.tape=w0.tape
 output:w.output=w0.output
 size:w0.heap.size<=w.heap.size
 old:∀ b,b<w0.heap.size->(∀ j,j<m0->DZ (φ0 j)≠some b)->w.heap[b]? = w0.heap[b]?
 same:∀ j,j<mv->φ j=φ0 j
 new:∀ i bi,st[i]? = some bi->bi.live=true->∀ b,DZ (φ i)=some b->w0.heap.size<=b\/∃ j,j<m0/\DZ (φ0 j)=some b
 vars:∀ j,j<mv->AW st j=true
 frz:∀ b,b<w0.heap.size->(∀ j,j<m0->DZ (φ0 j)≠some b)->H b=H0 b
structure Ae (H:HP) (φ:CG) (st:List AS) (w:World) (H':HP) (φ':CG) (st':List AS) (w':World):Prop where
 le:H.le H'
 sr:SR H' φ' st' w'
 fr:∀ mv m0 H0 φ0 w0,Fr mv m0 H0 φ0 w0 H φ st w->Fr mv m0 H0 φ0 w0 H' φ' st' w'
variable {H H':HP} {φ:CG} {st:List AS} {w w':World}
theorem Ae.refl (h:SR H φ st w):Ae H φ st w H φ st w:=⟨HP.le_refl H,h,fun _ _ _ _ _ h=>h⟩
theorem Ae.trans {H1 H2 H3:HP} {φ1 φ2 φ3:CG} {st1 st2 st3:List AS} {w1 w2 w3:World} (h:Ae H1 φ1 st1 w1 H2 φ2 st2 w2) (g:Ae H2 φ2 st2 w2 H3 φ3 st3 w3) :
  Ae H1 φ1 st1 w1 H3 φ3 st3 w3:=⟨HP.le_trans h.le g.le,g.sr,fun mv m H0 φ0 w0 f=>g.fr mv m H0 φ0 w0 (h.fr mv m H0 φ0 w0 f)⟩
theorem Ae.grow (h:SR H φ st w) (hg:w.grownBy w' none):Ae H φ st w H φ st w' where
 le:=HP.le_refl H
 sr:=h.grow hg
 fr mv m0 H0 φ0 w0 f:=⟨hg.os.trans f.os,hg.tape.trans f.tape,hg.output.trans f.output,Nat.le_trans f.size hg.size,
  fun b hb hn=>(hg.block b (Nat.lt_of_lt_of_le hb f.size) (by simp)).trans (f.old b hb hn),f.same,f.new,f.vars,f.frz⟩
theorem Ae.push (h:SR H φ st w) {v:Value} {bx:AS} (hg:w.grownBy w' none) (hb:L6 H w' v bx) (hn:bx.live=true->∀ b,DZ v=some b->w.heap.size<=b)
  (hc:∀ (cs:List AV),bx=AS.var cs->∀ (o i:Nat),cs[o]? = some (AV.row i)->(AN st i).isSome=true/\∃ b,v=.pointer (some ⟨b,0,none⟩)/\w'.cell? ⟨b,o,none⟩=some (φ i)) :
  Ae H φ st w H (fun i=>if i=st.length then v else φ i) (st++[bx]) w' where
 le:=HP.le_refl H
 sr:=(h.grow hg).push hb (fun hl b hb'=>h.fresh (hn hl b hb')) hc
 fr mv m0 H0 φ0 w0 f:=by
  refine ⟨hg.os.trans f.os,hg.tape.trans f.tape,hg.output.trans f.output,Nat.le_trans f.size hg.size,
   fun b hb hn=>(hg.block b (Nat.lt_of_lt_of_le hb f.size) (by simp)).trans (f.old b hb hn),fun j hj=>?_,fun i bi hbi hl b hb'=>?_,fun j hj=>?_,f.frz⟩
  ·have:=RY (f.vars j hj)
   rw [if_neg (by omega)]
   exact f.same j hj
  ·rcases Nat.lt_trichotomy i st.length with e | e | e
   ·rw [BF e] at hbi
    simp only [Nat.ne_of_lt e,if_false] at hb'
    exact f.new i bi hbi hl b hb'
   ·subst e
    simp at hbi
    subst hbi
    simp only [if_true] at hb'
    exact .inl (Nat.le_trans f.size (hn hl b hb'))
   ·rw [Dc (by simp; omega)] at hbi; cases hbi
  ·have:=f.vars j hj
   have hl:=RY this
   unfold AW at this ⊢
   rw [BF hl]
   exact this
theorem Ae.update (h:SR H φ st w) {id:Nat} {bx bx':AS} {v':Value} (hid:st[id]? = some bx) (hl:bx.live=true) (hg:w.grownBy w' (DZ (φ id)))
  (hb:L6 H w' v' bx') (hn:∀ b,DZ v'=some b->DZ (φ id)=some b\/w.heap.size<=b) (hsame:(bx'.hold=true/\v'=φ id)\/AW st id=false)
  (hr:∀ (k:Nat) (cs:List AV),st[k]? = some (AS.var cs)->∀ (o:Nat),cs[o]? = some (AV.row id)->v'=φ id/\(AN (st.set id bx') id).isSome=true)
  (hc:∀ (cs:List AV),bx'=AS.var cs->∀ (o i:Nat),cs[o]? = some (AV.row i)->i≠id/\(AN st i).isSome=true/\∃ b,v'=.pointer (some ⟨b,0,none⟩)/\w'.cell? ⟨b,o,none⟩=some (φ i)) :
  Ae H φ st w H (fun i=>if i=id then v' else φ i) (st.set id bx') w' where
 le:=HP.le_refl H
 sr:=h.update hid hl hg hb hn hr hc
 fr mv m0 H0 φ0 w0 f:=by
  have hlt:id<st.length:=(Aj.1 hid).1
  have hm:AW st id=false->mv<=id:=fun e=>by
   rcases B6 id mv with hi | hi
   ·have:=f.vars id hi; rw [e] at this; cases this
   ·exact hi
  refine ⟨hg.os.trans f.os,hg.tape.trans f.tape,hg.output.trans f.output,Nat.le_trans f.size hg.size,fun b hb' hn'=>?_,fun j hj=>?_,fun i bi hbi hli b hb'=>?_,fun j hj=>?_,f.frz⟩
  ·rw [hg.block b (Nat.lt_of_lt_of_le hb' f.size) (fun e=>?_)]
   ·exact f.old b hb' hn'
   ·rcases f.new id bx hid hl b e.symm with g | ⟨j,g1,g2⟩
    ·omega
    ·exact hn' j g1 g2
  ·by_cases e:j=id
   ·subst e
    rcases hsame with ⟨_,e2⟩ | e2
    ·rw [if_pos rfl,e2]; exact f.same j hj
    ·have:=hm e2; omega
   ·rw [if_neg e]; exact f.same j hj
  ·by_cases e:i=id
   ·subst e
    simp only [if_true] at hb'
    rcases hn b hb' with e2 | e2
    ·exact f.new i bx hid hl b e2
    ·exact .inl (Nat.le_trans f.size e2)
   ·rw [BD,if_neg (Ne.symm e)] at hbi
    simp only [e,if_false] at hb'
    exact f.new i bi hbi hli b hb'
  ·by_cases e:j=id
   ·subst e
    rcases hsame with ⟨e2,_⟩ | e2
    ·unfold AW; rw [BD]; simp [hlt,e2]
    ·have:=hm e2; omega
   ·have:=f.vars j hj
    unfold AW at this ⊢
    rw [BD,if_neg (Ne.symm e)]
    exact this
theorem Ae.freeze (h:SR H φ st w) {id:Nat} {t:TypeId} {K:Kd} {xs:List K.T} (hid:st[id]? = some (.rows t K xs)) :
  ∃ H',Ae H φ st w H' φ (st.set id (.frz K xs)) w/\ZR (GN H' K) K.sz H' xs (φ id)/\∀ b,DZ (φ id)≠some b->H' b=H b:=by
 obtain ⟨H',h1,h2,h3,h4⟩:=h.freeze hid
 have hlt:id<st.length:=(Aj.1 hid).1
 refine ⟨H',⟨h1,h2,fun mv m0 H0 φ0 w0 f=>⟨f.os,f.tape,f.output,f.size,f.old,f.same,fun i bi hbi hli=>?_,fun j hj=>?_,fun b hb hn=>?_⟩⟩,h3,h4⟩
 ·by_cases e:i=id
  ·subst e
   rw [BD] at hbi
   simp [hlt] at hbi
   subst hbi
   cases hli
  ·rw [BD,if_neg (Ne.symm e)] at hbi
   exact f.new i bi hbi hli
 ·have hv:=f.vars j hj
  by_cases e:j=id
  ·subst e; unfold AW at hv; rw [hid] at hv; cases hv
  ·unfold AW at hv ⊢
   rw [BD,if_neg (Ne.symm e)]
   exact hv
 ·rw [h4 b fun e=>?_]
  ·exact f.frz b hb hn
  ·rcases f.new id _ hid rfl b e with g | ⟨j,g1,g2⟩
   ·omega
   ·exact hn j g1 g2
theorem Ae.kill (h:SR H φ st w) (ids:List Nat):Ae H φ st w H φ (st.map (AS.kill ids)) w where
 le:=HP.le_refl H
 sr:=h.kill ids
 fr mv m0 H0 φ0 w0 f:=by
  refine ⟨f.os,f.tape,f.output,f.size,f.old,f.same,fun i bi hbi hli=>?_,fun j hj=>?_,f.frz⟩
  ·rw [CT] at hbi
   cases hb:st[i]? with
   | none=>rw [hb] at hbi; cases hbi
   | some b0 =>
    rw [hb] at hbi
    cases hbi
    exact f.new i b0 hb (by cases b0<;>exact hli)
  ·rw [Fg (Ab ids)]; exact f.vars j hj
theorem Ae.pick (h:SR H φ st w) {φ2:CG} {st2:List AS} (μ:Nat->Nat) (hb:∀ (k:Nat) (b2:AS),st2[k]? = some b2->L6 H w (φ2 k) b2)
  (hl:∀ (k:Nat) (b2:AS),st2[k]? = some b2->b2.live=true->DZ (φ2 k)=none\/∃ b,st[μ k]? = some b/\b.live=true/\φ2 k=φ (μ k))
  (inj:∀ (k k':Nat) (b2 b2':AS),st2[k]? = some b2->st2[k']? = some b2'->b2.live=true->b2'.live=true->DZ (φ2 k)≠none->DZ (φ2 k')≠none->μ k=μ k'->k=k')
  (hc:∀ (id:Nat) (cs:List AV),st2[id]? = some (AS.var cs)->∀ (o i:Nat),cs[o]? = some (AV.row i)->(AN st2 i).isSome=true/\∃ b,φ2 id=.pointer (some ⟨b,0,none⟩)/\w.cell? ⟨b,o,none⟩=some (φ2 i)) :
  SR H φ2 st2 w:=by
 refine ⟨h.hp,hb,fun i j bi bj hi hj li lj hij b hbi hbj=>?_,fun i bi hi li b hbi=>?_,hc,h.tb⟩
 ·rcases hl i bi hi li with e | ⟨b1,g1,g2,g3⟩
  ·rw [e] at hbi; cases hbi
  rcases hl j bj hj lj with e | ⟨b2,k1,k2,k3⟩
  ·rw [e] at hbj; cases hbj
  have hne:μ i≠μ j:=fun e=>hij (inj i j bi bj hi hj li lj (by rw [hbi]; simp) (by rw [hbj]; simp) e)
  rw [g3] at hbi
  rw [k3] at hbj
  exact h.sep _ _ b1 b2 g1 k1 g2 k2 hne b hbi hbj
 ·rcases hl i bi hi li with e | ⟨b1,g1,g2,g3⟩
  ·rw [e] at hbi; cases hbi
  rw [g3] at hbi
  exact h.out _ b1 g1 g2 b hbi
theorem Ae.ghost (h:SR H φ st w) {φ2:CG} {st2:List AS} (μ:Nat->Nat) (hsr:SR H φ2 st2 w)
  (hl:∀ (k:Nat) (b2:AS),st2[k]? = some b2->b2.live=true->DZ (φ2 k)=none\/∃ b,st[μ k]? = some b/\b.live=true/\φ2 k=φ (μ k))
  (hv:∀ j,AW st j=true->φ2 j=φ j/\AW st2 j=true):Ae H φ st w H φ2 st2 w where
 le:=HP.le_refl H
 sr:=hsr
 fr mv m0 H0 φ0 w0 f:=by
  refine ⟨f.os,f.tape,f.output,f.size,f.old,fun j hj=>(hv j (f.vars j hj)).1.trans (f.same j hj),fun i bi hi li b hb=>?_,fun j hj=>(hv j (f.vars j hj)).2,f.frz⟩
  rcases hl i bi hi li with e | ⟨b1,g1,g2,g3⟩
  ·rw [e] at hb; cases hb
  ·rw [g3] at hb
   exact f.new _ b1 g1 g2 b hb
theorem Vg {s s':St} {a a':AV} {v:Value} (hs:SR H φ s.st w) (hv:VC H φ s.st a v) (h:s.keep a=some (a',s')) :
  ∃ H',Ae H φ s.st w H' φ s'.st w/\By φ s.st φ s'.st none/\VF H' a' v/\s'.fr=s.fr/\s'.st.length=s.st.length:=by
 cases a with
 | int k n=>cases h; exact ⟨H,Ae.refl hs,By.refl _ _ _,hv,rfl,rfl⟩
 | bool b=>cases h; exact ⟨H,Ae.refl hs,By.refl _ _ _,hv,rfl,rfl⟩
 | str b=>cases h; exact ⟨H,Ae.refl hs,By.refl _ _ _,hv,rfl,rfl⟩
 | nil=>cases h; exact ⟨H,Ae.refl hs,By.refl _ _ _,hv,rfl,rfl⟩
 | lst K xs=>cases h; exact ⟨H,Ae.refl hs,By.refl _ _ _,hv,rfl,rfl⟩
 | fn f caps =>
  cases caps with
  | nil=>cases h; exact ⟨H,Ae.refl hs,By.refl _ _ _,hv,rfl,rfl⟩
  | cons _ _=>cases h
 | clo f K x=>cases h; exact ⟨H,Ae.refl hs,By.refl _ _ _,hv,rfl,rfl⟩
 | row id =>
  simp only [St.keep] at h
  obtain ⟨e,_⟩:=hv
  subst e
  cases hb:s.st[id]? with
  | none=>rw [hb] at h; cases h
  | some bx =>
   rw [hb] at h
   cases bx with
   | rows t K xs =>
    cases h
    obtain ⟨H',h1,h3,_⟩:=Ae.freeze hs hb
    exact ⟨H',h1,gP hb,h3,rfl,by simp⟩
   | frz K xs =>
    cases h
    exact ⟨H,Ae.refl hs,By.refl _ _ _,(hs.box id _ hb).1,rfl,rfl⟩
   | mrow t K xs=>cases h
   | byt t xs=>cases h
   | var cs=>cases h
   | dead=>cases h
 | _=>cases h
theorem RH:∀ {aw aw':List AV} {s s':St} {H:HP} {vs:List Value},SR H φ s.st w->Aq (VC H φ s.st) aw vs->s.keepAll aw=some (aw',s') ->
  ∃ H',Ae H φ s.st w H' φ s'.st w/\By φ s.st φ s'.st none/\I8 H' aw' vs/\s'.fr=s.fr/\s'.st.length=s.st.length
 | [],aw',s,s',H,vs,hs,hv,h=>by
  cases h
  cases hv
  exact ⟨H,Ae.refl hs,By.refl _ _ _,rfl,rfl,rfl⟩
 | a::aw,aw',s,s',H,vs,hs,hv,h=>by
  obtain ⟨v,r,rfl,h1,h2⟩:=hv
  simp only [St.keepAll] at h
  cases hk:s.keep a with
  | none=>rw [hk] at h; cases h
  | some x =>
   obtain ⟨a',s1⟩:=x
   rw [hk] at h
   simp only [Z] at h
   obtain ⟨H1,g1,k1,f1,e1,n1⟩:=Vg hs h1 hk
   cases hq:s1.keepAll aw with
   | none=>rw [hq] at h; cases h
   | some y =>
    obtain ⟨b',s2⟩:=y
    rw [hq] at h
    cases h
    obtain ⟨H2,g2,k2,f2,e2,n2⟩:=RH g1.sr (h2.imp fun _ _ h=>h.mono g1.le k1) hq
    exact ⟨H2,g1.trans g2,k1.trans k2,⟨v,r,rfl,f1.mono g2.le,f2⟩,e2.trans e1,n2.trans n1⟩
theorem L7 {a:AV} {aw':List AV} {s s':St} {v:Value} (hs:SR H φ s.st w) (hv:VA H φ s.st a v) (h:s.keepAll a.cells=some (aw',s')) :
  ∃ H',Ae H φ s.st w H' φ s'.st w/\By φ s.st φ s'.st none/\I8 H' aw' v.cells.toList/\s'.fr=s.fr/\s'.st.length=s.st.length:=by
 rcases hv.cases with ⟨cs,arr,rfl,rfl,hc⟩ | ⟨vs,arr,rfl,_,_⟩ | hc
 ·exact RH hs hc h
 ·simp [AV.cells,St.keepAll,St.keep] at h
 ·have hcell:a.cells=[a]:=by
   cases a<;>first | rfl | exact hc.elim
  rw [hcell] at h
  obtain ⟨H',g,k,f,e,n⟩:=RH (vs:=[v]) hs (show Aq (VC H φ s.st) [a] [v] from ⟨v,[],rfl,hc,rfl⟩) h
  refine ⟨H',g,k,?_,e,n⟩
  cases aw' with
  | nil=>cases f
  | cons b bs =>
   obtain ⟨v',r,e1,e2,e3⟩:=f
   cases e1
   rw [e2.cells]
   exact ⟨v,[],rfl,e2,e3⟩
theorem VF.oneCell {a:AV} {v:Value} (h:VF H a v):v.oneCell'=true:=by
 cases a with
 | int k n=>simp only [VF] at h; subst h; rfl
 | bool b=>simp only [VF] at h; subst h; rfl
 | str s=>simp only [VF] at h; subst h; rfl
 | nil=>simp only [VF] at h; subst h; rfl
 | lst K xs=>obtain ⟨a,cap,e,_⟩:=h; subst e; rfl
 | fn f caps=>obtain ⟨_,e⟩:=h; subst e; rfl
 | clo f K x=>obtain ⟨b,o,c,el,fz,e,_⟩:=h; subst e; rfl
 | _=>exact h.elim
theorem I8.oneCell:∀ {aw:List AV} {vs:List Value},I8 H aw vs->∀ v∈vs,v.oneCell'=true
 | [],_,h,v,hv=>by cases h; cases hv
 | _::_,_,⟨u,r,e,h,hr⟩,v,hv=>by
  subst e
  cases hv with
  | head=>exact h.oneCell
  | tail _ hm=>exact I8.oneCell hr v hm
end Go.Proofs.YtfcgblnlopemkaaGreatDoor.Core

namespace Go.Proofs.YtfcgblnlopemkaaGreatDoor.Core
open Go
variable {H:HP} {φ:CG} {st:List AS} {w:World} {P:Program}
theorem S_:∀ (aw cs:List AV) (o:Nat),o+aw.length<=cs.length->putCells cs o aw=cs.take o++aw++cs.drop (o+aw.length)
 | [],cs,o,_=>by simp [putCells]
 | a::aw,cs,o,h=>by
  simp only [List.length_cons] at h
  simp only [putCells]
  rw [S_ aw (cs.set o a) (o+1) (by simp; omega)]
  have ho:o<cs.length:=by omega
  have e1:(cs.set o a).take (o+1)=cs.take o++[a]:=by
   apply List.ext_getElem?
   intro i
   rcases Nat.lt_trichotomy i o with e | e | e
   ·simp [Bz,List.getElem?_append,e,Nat.lt_succ_of_lt e,BD,Nat.ne_of_gt e,show i<min o cs.length by omega]
   ·subst e; simp [Bz,List.getElem?_append,BD,ho,show ¬ i<min i cs.length by omega,show i-min i cs.length=0 by omega]
   ·rw [Dc (by simp; omega),Dc (by simp; omega)]
  have e2:(cs.set o a).drop (o+1+aw.length)=cs.drop (o+(aw.length+1)):=by
   apply List.ext_getElem?
   intro i
   simp only [C3,BD]
   rw [if_neg (by omega)]
   congr 1
   omega
  rw [e1,e2]
  simp
theorem I8.splice {aw cs:List AV} {vs us:List Value} {o:Nat} (h:I8 H cs us) (g:I8 H aw vs) (ho:o+aw.length<=cs.length) :
  I8 H (putCells cs o aw) (us.take o++vs++us.drop (o+vs.length)):=by
 rw [S_ aw cs o ho,g.length]
 exact ((h.take o).append g).append (h.drop _)
theorem Dd {α:Type} (l vs:List α) (o k:Nat) (h:o+vs.length<=l.length) :
  (l.take o++vs++l.drop (o+vs.length))[k]? = if k<o then l[k]? else if k<o+vs.length then vs[k-o]? else l[k]? := by
 rcases B6 k o with h1 | h1
 ·rw [if_pos h1,Be,BF (by simp; omega),Bz,if_pos h1]
 ·rw [if_neg (by omega),Be,Ci (by simp; omega)]
  simp only [List.length_take,Nat.min_eq_left (show o<=l.length by omega)]
  rcases B6 k (o+vs.length) with h2 | h2
  ·rw [if_pos h2,BF (by omega)]
  ·rw [if_neg (by omega),Ci (by omega),C3]
   congr 1
   omega
theorem IG {α:Type} (l vs:List α) (o:Nat) (h:o+vs.length<=l.length):(l.take o++vs++l.drop (o+vs.length)).length=l.length:=by
 simp; omega
theorem XY:∀ (K:Kd) (x:K.T),(K.enc x).length=K.sz
 | .int _,_=>rfl
 | .bool,_=>rfl
 | .str,_=>rfl
 | .slice _,_=>rfl
 | .pair a b,x=>by simp [Kd.enc,Kd.sz,XY a,XY b]
 | .own _ _,_=>rfl
 | .ref _,_=>rfl
 | .fun _,_=>rfl
 | .clo _ _,_=>rfl
theorem L8 (w:World) (b:Nat) (cs:Array Value):w.grownBy (w.setRow b cs) (some b) where
 os:=rfl
 tape:=rfl
 output:=rfl
 size:=by simp
 block k _ hne:=setRow_other w b k cs (fun e=>hne (by rw [e]))
theorem XZ {b o:Nat} {t el:TypeId} {v:Value} {cur:Array Value} (hg:w.heap[b]? = some (.cells cur el (0,0))) (hsz:xF P t v.cells.size=true)
  (hl:o+v.cells.size<=cur.size) (h1:∀ u∈v.cells.toList,u.oneCell'=true) :
  (Instr.storeAt t (.pointer (some ⟨b,o,none⟩)) v).run P w =
   .ok () (w.setRow b (cur.toList.take o++v.cells.toList++cur.toList.drop (o+v.cells.toList.length)).toArray):=by
 have:=run_storeCells_at P b o el v.cells.toList 0 cur w hg (by simpa using hl) h1
 have hs:=Rd hsz
 cases hq:P.info? t with
 | none=>simp [hq] at hs
 | some i =>
  have hs:i.size=v.cells.size:=by simpa [hq] using hs
  simp only [Nat.add_zero] at this
  simp [Instr.storeAt,Instr.sureAddr,storeVar,sizeOf,typeInfo,hq,hs,this]
theorem KK (w:World) (p:Addr) (v:Value):w.grownBy (w.setCell p v) (some p.block) :=
 ⟨rfl,rfl,rfl,by simp [World.setCell],fun k _ hk=>RowKit.Below.heap_setCell _ _ _ _ (fun e=>hk (by simp [e]))⟩
theorem tc {b o:Nat} {t el:TypeId} {v u:Value} {cur:Array Value} {fz:Nat×Nat} (hg:w.heap[b]? = some (.cells cur el fz)) (hsz:xF P t v.cells.size=true)
  (hv:v.cells=#[u]) (hl:o<cur.size) (hf:o<fz.1) (h1:u.oneCell'=true) :
  (Instr.storeAt t (.pointer (some ⟨b,o,none⟩)) v).run P w=.ok () (w.setCell ⟨b,o,none⟩ u):=by
 have:=run_storeCells_cells (P:=P) b o [u] 0 w (fun j hj=>by
  have:j=0:=by simpa using hj
  subst this
  simp [World.cell?,hg,hl]) (fun j hj=>by
  have:j=0:=by simpa using hj
  subst this
  obtain ⟨lo,hi⟩:=fz
  simp only [World.frozen?,hg]
  simp only [Nat.add_zero] at hf ⊢
  simp; omega) (by simpa using h1)
 have hs:=Rd hsz
 cases hq:P.info? t with
 | none=>simp [hq] at hs
 | some i =>
  have hs:i.size=v.cells.size:=by simpa [hq] using hs
  rw [hv] at hs
  simp only [Nat.add_zero] at this
  simp [Instr.storeAt,Instr.sureAddr,storeVar,sizeOf,typeInfo,hq,hs,hv,this,World.setCells]
theorem x_ (hs:SR H φ st w) {id:Nat} (h:(AN st id).isSome=true):∃ a n c,φ id=.slice a n c:=by
 unfold AN at h
 split at h
 ·rename_i t K xs hb
  obtain ⟨flat,ho,_⟩:=hs.box id _ hb
  rcases ho.2 with ⟨e,_⟩ | ⟨g,cap,cur,e,_⟩<;>rw [e]<;>exact ⟨_,_,_,rfl⟩
 ·rename_i K xs hb
  obtain ⟨⟨a,cap,e,_⟩,_⟩:=hs.box id _ hb
  rw [e]; exact ⟨_,_,_,rfl⟩
 ·rename_i t K xs hb
  obtain ⟨flat,ho,_⟩:=hs.box id _ hb
  rcases ho.2 with ⟨e,_⟩ | ⟨g,cap,cur,e,_⟩<;>rw [e]<;>exact ⟨_,_,_,rfl⟩
 ·rename_i t xs hb
  obtain ⟨g,cap,e,_⟩:=tX.flat (hs.box id _ hb)
  exact ⟨_,_,_,e⟩
 ·cases h
theorem pJ {st:List AS} (hs:SR H φ st w) {a:AV} {v:Value} (hg:a.good=true) (h:VC H φ st a v):v.oneCell'=true/\v.cells=#[v]:=by
 cases a with
 | row id =>
  obtain ⟨e,hk⟩:=h
  obtain ⟨a,n,c,e2⟩:=x_ hs hk
  rw [e,e2]
  exact ⟨rfl,rfl⟩
 | int k n=>exact ⟨VF.oneCell (H:=H) (a:=.int k n) h,VF.cells (H:=H) (a:=.int k n) h⟩
 | bool b=>exact ⟨VF.oneCell (H:=H) (a:=.bool b) h,VF.cells (H:=H) (a:=.bool b) h⟩
 | str s=>exact ⟨VF.oneCell (H:=H) (a:=.str s) h,VF.cells (H:=H) (a:=.str s) h⟩
 | nil=>exact ⟨VF.oneCell (H:=H) (a:=.nil) h,VF.cells (H:=H) (a:=.nil) h⟩
 | lst K xs=>exact ⟨VF.oneCell (H:=H) (a:=.lst K xs) h,VF.cells (H:=H) (a:=.lst K xs) h⟩
 | fn f caps=>exact ⟨VF.oneCell (H:=H) (a:=.fn f caps) h,VF.cells (H:=H) (a:=.fn f caps) h⟩
 | clo f K x=>exact ⟨VF.oneCell (H:=H) (a:=.clo f K x) h,VF.cells (H:=H) (a:=.clo f K x) h⟩
 | _=>cases hg
theorem wL {ids:List Nat} {a:AV} (h:(a.kill1 ids).good=true):a.good=true:=by
 cases a with
 | row i=>rfl
 | eptr i j o=>simp only [AV.kill1] at h; split at h<;>cases h
 | _=>first | exact h | cases h
theorem so {s:St} {v:AV} {x:AV×St} (h:s.keep v=some x):v.good=true:=by
 cases v with
 | fn f caps=>cases caps<;>first | rfl | (simp [St.keep] at h)
 | _=>first | rfl | (simp [St.keep] at h)
theorem gQ {s:St} {i:Nat} {v:AV} {x:AV×St×List Nat} (h:s.intoRow i v=some x):v.good=true:=by
 cases v<;>first | rfl | (simp [St.intoRow] at h)
theorem yA {s:St} {own:Bool} {c v:AV} {x:AV×St×List Nat} (h:s.into own c v=some x):v.good=true:=by
 unfold St.into at h
 split at h
 ·exact gQ h
 ·exact gQ h
 ·split at h
  ·split at h
   ·rfl
   ·split at h
    ·rename_i hs; cases v<;>first | rfl | exact hs
    ·cases h
  ·cases hk:s.keep v with
   | none=>rw [hk] at h; cases h
   | some y=>exact so hk
theorem Xa:∀ {cs vs:List AV} {s:St} {own:Bool} {x:List AV×St×List Nat},s.intoAll own cs vs=some x->cs.length=vs.length/\x.1.length=vs.length/\∀ v∈vs,v.good=true
 | [],[],s,own,x,h=>by cases h; simp
 | [],_::_,s,own,x,h=>by simp [St.intoAll] at h
 | _::_,[],s,own,x,h=>by simp [St.intoAll] at h
 | c::cs,v::vs,s,own,x,h=>by
  simp only [St.intoAll] at h
  cases h1:s.into own c v with
  | none=>rw [h1] at h; cases h
  | some y =>
   rw [h1] at h
   simp only [Z] at h
   cases h2:y.2.1.intoAll own cs (vs.map (AV.kill1 y.2.2)) with
   | none=>rw [h2] at h; cases h
   | some z =>
    rw [h2] at h
    simp only [Z] at h
    split at h
    ·cases h
    ·cases h
     obtain ⟨l1,l2,l3⟩:=Xa h2
     simp only [List.length_map] at l1 l2
     refine ⟨by simp [l1],by simp [l2],fun u hu=>?_⟩
     rcases BI.1 hu with rfl | hu
     ·exact yA h1
     ·exact wL (l3 _ (List.mem_map_of_mem hu))
theorem Cw.of_keeps {φ φ':CG} {st st':List AS} (h:By φ st φ' st' none):Cw φ st φ' st' [] :=
 ⟨fun id _ hd=>let ⟨a,b,c,_⟩:=h id (by simp) hd; ⟨a,b,c⟩,fun id hv=>h.hold id hv⟩
theorem TA (a b:List Nat) (i:Nat):Bx (a++b) i=(Bx a i||Bx b i):=by
 induction a with
 | nil=>simp [Bx]
 | cons x r ih=>simp only [List.cons_append,Bx]; split<;>simp [ih]
theorem Cw.trans {φ φ' φ'':CG} {st st' st'':List AS} {a b:List Nat} (h:Cw φ st φ' st' a) (g:Cw φ' st' φ'' st'' b):Cw φ st φ'' st'' (a++b):=by
 refine ⟨fun id hn hd=>?_,fun id hv=>?_⟩
 ·rw [TA,Bool.or_eq_false_iff] at hn
  obtain ⟨h1,h2,h3⟩:=h.1 id hn.1 hd
  obtain ⟨g1,g2,g3⟩:=g.1 id hn.2 (by rw [h2,h3]; exact hd)
  exact ⟨g1.trans h1,g2.trans h2,g3.trans h3⟩
 ·obtain ⟨h1,h2,h3⟩:=h.2 id hv
  obtain ⟨g1,g2,g3⟩:=g.2 id h2
  exact ⟨g1.trans h1,g2,g3.trans h3⟩
theorem VC.kill_mono {H':HP} {φ':CG} {st st':List AS} {ids:List Nat} (hH:H.le H') (hk:Cw φ st φ' st' ids) {a:AV} {v:Value} (h:VC H φ st a v):VC H' φ' st' (a.kill1 ids) v :=
 (h.mono hH (By.refl φ st none)).kill hk
theorem ACw (i:Nat):Bx [] i=false:=rfl
theorem gR {s s':St} {i:Nat} {v a:AV} {ids:List Nat} {u:Value} (hs:SR H φ s.st w) (hv:VC H φ s.st v u) (h:s.intoRow i v=some (a,s',ids)) :
  ∃ φ',Ae H φ s.st w H φ' s'.st w/\Cw φ s.st φ' s'.st ids/\a=.row i/\(AN s'.st i).isSome=true/\u=φ' i /\
   (∀ tmps,Gw H φ s.st s.fr tmps->Gw H φ' s'.st s'.fr tmps):=by
 have rowNot:∀ {t:TypeId} {K:Kd} {xs:List K.T} {k:Nat},s.st[k]? = some (.rows t K xs)->AW s.st k=false:=fun {t K xs k} e=>by simp only [AW,e]; rfl
 cases v with
 | row k =>
  simp only [St.intoRow] at h
  split at h
  ·rename_i e
   cases h
   subst e
   exact ⟨φ,Ae.refl hs,.of_keeps (By.refl _ _ _),rfl,hv.2,hv.1,fun _ h=>h⟩
  ·rename_i hne
   split at h
   ·rename_i t K xs hk
    split at h
    ·rename_i hi
     cases h
     have hki:k≠i:=hne
     have li:i<s.st.length:=by
      rcases B6 i s.st.length with h | h
      ·exact h
      ·rw [Dc h] at hi; cases hi
     have hnv:AW s.st i=false:=by
      unfold AW
      cases hb:s.st[i]? with
      | none=>rfl
      | some b=>rw [hb] at hi; cases b<;>first | rfl | cases hi
     have lk:k<s.st.length:=(Aj.1 hk).1
     let st2:=((s.st.map (AS.kill [i,k])).set i (.rows t K xs)).set k .dead
     let φ2:CG:=fun j=>if j=i then φ k else φ j
     let μ:Nat->Nat:=fun j=>if j=i then k else j
     have gi:st2[i]? = some (.rows t K xs):=by
      simp only [st2]; rw [BD,if_neg hki,BD]; simp [li]
     have gk:st2[k]? = some .dead:=by
      simp only [st2]; rw [BD]; simp [lk]
     have go:∀ j,j≠i->j≠k->st2[j]? = (s.st.map (AS.kill [i,k]))[j]? := fun j h1 h2=>by
      simp only [st2]; rw [BD,if_neg (Ne.symm h2),BD,if_neg (Ne.symm h1)]
     have hsk:=hs.kill [i,k]
     have hl:∀ j b2,st2[j]? = some b2->b2.live=true->DZ (φ2 j)=none\/∃ b,s.st[μ j]? = some b/\b.live=true/\φ2 j=φ (μ j):=by
      intro j b2 hj hlv
      right
      by_cases e1:j=i
      ·subst e1
       exact ⟨_,by simpa [μ] using hk,rfl,by simp [φ2,μ]⟩
      ·by_cases e2:j=k
       ·subst e2; rw [gk] at hj; cases hj; cases hlv
       ·rw [go j e1 e2,CT] at hj
        cases hb:s.st[j]? with
        | none=>rw [hb] at hj; cases hj
        | some b0 =>
         rw [hb] at hj
         cases hj
         exact ⟨b0,by simpa [μ,e1] using hb,by cases b0<;>exact hlv,by simp [φ2,μ,e1]⟩
     have hsr:SR H φ2 st2 w:=by
      refine Ae.pick hs μ (fun j b2 hj=>?_) hl (fun j j' b2 b2' hj hj' l1 l2 _ _ e=>?_) (fun j cs hj o q hq=>?_)
      ·by_cases e1:j=i
       ·subst e1
        rw [gi] at hj
        cases hj
        simpa [φ2] using hs.box k _ hk
       ·by_cases e2:j=k
        ·subst e2; rw [gk] at hj; cases hj; trivial
        ·rw [go j e1 e2] at hj
         simpa [φ2,e1] using hsk.box j b2 hj
      ·have nk:∀ j b2,st2[j]? = some b2->b2.live=true->j≠k:=fun j b2 hj l e=>by subst e; rw [gk] at hj; cases hj; cases l
       have n1:=nk j b2 hj l1
       have n2:=nk j' b2' hj' l2
       simp only [μ] at e
       by_cases e1:j=i<;>by_cases e2:j'=i
       ·rw [e1,e2]
       ·rw [if_pos e1,if_neg e2] at e; exact absurd e.symm n2
       ·rw [if_neg e1,if_pos e2] at e; exact absurd e n1
       ·rw [if_neg e1,if_neg e2] at e; exact e
      ·have e1:j≠i:=fun e=>by subst e; rw [gi] at hj; cases hj
       have e2:j≠k:=fun e=>by subst e; rw [gk] at hj; cases hj
       rw [go j e1 e2] at hj
       have hn:=RZ hj hq
       obtain ⟨c1,b,c2,c3⟩:=hsk.cell j cs hj o q hq
       have q1:q≠i:=fun e=>by subst e; simp [Bx] at hn
       have q2:q≠k:=fun e=>by subst e; simp [Bx] at hn
       refine ⟨?_,b,by simpa [φ2,e1] using c2,by simpa [φ2,q1] using c3⟩
       unfold AN at c1 ⊢
       rw [go q q1 q2]
       exact c1
     have hkb:Cw φ s.st φ2 st2 [i,k]:=by
      refine ⟨fun j hn _=>?_,fun j hvj=>?_⟩
      ·have q1:j≠i:=fun e=>by subst e; simp [Bx] at hn
       have q2:j≠k:=fun e=>by subst e; simp [Bx] at hn
       refine ⟨by simp [φ2,q1],?_,?_⟩
       ·have:AN st2 j=AN (s.st.map (AS.kill [i,k])) j:=by unfold AN; rw [go j q1 q2]
        rw [this,Gr (Ab _)]
       ·have:Ak st2 j=Ak (s.st.map (AS.kill [i,k])) j:=by unfold Ak; rw [go j q1 q2]
        rw [this,FY (Ab _)]
      ·have q1:j≠i:=fun e=>by subst e; rw [hnv] at hvj; cases hvj
       have q2:j≠k:=fun e=>by subst e; rw [rowNot hk] at hvj; cases hvj
       have t1:AW st2 j=AW (s.st.map (AS.kill [i,k])) j:=by unfold AW; rw [go j q1 q2]
       have t2:Ak st2 j=Ak (s.st.map (AS.kill [i,k])) j:=by unfold Ak; rw [go j q1 q2]
       exact ⟨by simp [φ2,q1],by rw [t1,Fg (Ab _)]; exact hvj,by rw [t2,FY (Ab _)]⟩
     refine ⟨φ2,Ae.ghost hs μ hsr hl (fun j h=>⟨(hkb.2 j h).1,(hkb.2 j h).2.1⟩),hkb,rfl,by unfold AN; rw [gi]; rfl,by simp only [φ2,if_true]; exact hv.1,fun tmps hf=>hf.kill hkb⟩
    ·cases h
   ·cases h
 | nil =>
  simp only [St.intoRow] at h
  split at h
  ·rename_i t K xs hi
   cases h
   have li:i<s.st.length:=(Aj.1 hi).1
   let st2:=(s.st.map (AS.kill [i])).set i (.rows t K [])
   let φ2:CG:=fun j=>if j=i then .slice none 0 0 else φ j
   have gi:st2[i]? = some (.rows t K []):=by simp only [st2]; rw [BD]; simp [li]
   have go:∀ j,j≠i->st2[j]? = (s.st.map (AS.kill [i]))[j]? := fun j h1=>by simp only [st2]; rw [BD,if_neg (Ne.symm h1)]
   have hsk:=hs.kill [i]
   have hl:∀ j b2,st2[j]? = some b2->b2.live=true->DZ (φ2 j)=none\/∃ b,s.st[j]? = some b/\b.live=true/\φ2 j=φ j:=by
    intro j b2 hj hlv
    by_cases e1:j=i
    ·subst e1; left; simp [φ2,DZ]
    ·right
     rw [go j e1,CT] at hj
     cases hb:s.st[j]? with
     | none=>rw [hb] at hj; cases hj
     | some b0 =>
      rw [hb] at hj
      cases hj
      exact ⟨b0,rfl,by cases b0<;>exact hlv,by simp [φ2,e1]⟩
   have hsr:SR H φ2 st2 w:=by
    refine Ae.pick hs id (fun j b2 hj=>?_) hl (fun j j' b2 b2' hj hj' l1 l2 _ _ e=>e) (fun j cs hj o q hq=>?_)
    ·by_cases e1:j=i
     ·subst e1
      rw [gi] at hj
      cases hj
      refine ⟨[],⟨by simp,.inl ⟨by simp [φ2],rfl⟩⟩,fun j x hx=>by simp at hx⟩
     ·rw [go j e1] at hj
      simpa [φ2,e1] using hsk.box j b2 hj
    ·have e1:j≠i:=fun e=>by subst e; rw [gi] at hj; cases hj
     rw [go j e1] at hj
     have hn:=RZ hj hq
     obtain ⟨c1,b,c2,c3⟩:=hsk.cell j cs hj o q hq
     have q1:q≠i:=fun e=>by subst e; simp [Bx] at hn
     refine ⟨?_,b,by simpa [φ2,e1] using c2,by simpa [φ2,q1] using c3⟩
     unfold AN at c1 ⊢
     rw [go q q1]
     exact c1
   have hkb:Cw φ s.st φ2 st2 [i]:=by
    refine ⟨fun j hn _=>?_,fun j hvj=>?_⟩
    ·have q1:j≠i:=fun e=>by subst e; simp [Bx] at hn
     refine ⟨by simp [φ2,q1],?_,?_⟩
     ·have:AN st2 j=AN (s.st.map (AS.kill [i])) j:=by unfold AN; rw [go j q1]
      rw [this,Gr (Ab _)]
     ·have:Ak st2 j=Ak (s.st.map (AS.kill [i])) j:=by unfold Ak; rw [go j q1]
      rw [this,FY (Ab _)]
    ·have q1:j≠i:=fun e=>by subst e; rw [rowNot hi] at hvj; cases hvj
     have t1:AW st2 j=AW (s.st.map (AS.kill [i])) j:=by unfold AW; rw [go j q1]
     have t2:Ak st2 j=Ak (s.st.map (AS.kill [i])) j:=by unfold Ak; rw [go j q1]
     exact ⟨by simp [φ2,q1],by rw [t1,Fg (Ab _)]; exact hvj,by rw [t2,FY (Ab _)]⟩
   refine ⟨φ2,Ae.ghost hs id hsr hl (fun j h=>⟨(hkb.2 j h).1,(hkb.2 j h).2.1⟩),hkb,rfl,by unfold AN; rw [gi]; rfl,by simp only [φ2,if_true]; exact hv,fun tmps hf=>hf.kill hkb⟩
  ·cases h
 | _=>simp [St.intoRow] at h
def Zy (H:HP) (φ:CG) (st:List AS) (a:AV) (u:Value):Prop:=(∀ p el,VW H p el a u)/\∀ i,a=.row i->(AN st i).isSome=true/\u=φ i
theorem Zy.of_VF {a:AV} {u:Value} (h:VF H a u):Zy H φ st a u:=⟨fun _ _=>VW.of_VF h,fun i e=>by subst e; exact h.elim⟩
theorem Zy.mono {H':HP} {φ':CG} {st':List AS} {ids:List Nat} (hH:H.le H') (hk:Cw φ st φ' st' ids) {a:AV} {u:Value} (h:Zy H φ st a u) (hn:a.rowIn ids=false):Zy H' φ' st' a u :=
 ⟨fun p el=>(h.1 p el).mono hH,fun i e=>by
  subst e
  obtain ⟨h1,h2⟩:=h.2 i rfl
  obtain ⟨k1,k2,_⟩:=hk.1 i hn (.inl h1)
  exact ⟨by rw [k2]; exact h1,h2.trans k1.symm⟩⟩
theorem yB {s s':St} {own:Bool} {c v a:AV} {ids:List Nat} {u:Value} (hs:SR H φ s.st w) (hv:VC H φ s.st v u) (h:s.into own c v=some (a,s',ids)) :
  ∃ H' φ',Ae H φ s.st w H' φ' s'.st w/\Cw φ s.st φ' s'.st ids/\Zy H' φ' s'.st a u/\(∀ tmps,Gw H φ s.st s.fr tmps->Gw H' φ' s'.st s'.fr tmps):=by
 have row:∀ i,s.intoRow i v=some (a,s',ids)->∃ H' φ',Ae H φ s.st w H' φ' s'.st w/\Cw φ s.st φ' s'.st ids/\Zy H' φ' s'.st a u/\(∀ tmps,Gw H φ s.st s.fr tmps->Gw H' φ' s'.st s'.fr tmps):=by
  intro i h
  obtain ⟨φ',h1,h2,rfl,h4,h5,h6⟩:=gR hs hv h
  exact ⟨H,φ',h1,h2,⟨fun _ _=>trivial,fun j e=>by cases e; exact ⟨h4,h5⟩⟩,h6⟩
 unfold St.into at h
 split at h
 ·exact row _ h
 ·exact row _ h
 ·split at h
  ·split at h
   ·cases h
    exact ⟨H,φ,Ae.refl hs,.of_keeps (By.refl _ _ _),⟨fun _ _=>trivial,fun j e=>by cases e; exact ⟨hv.2,hv.1⟩⟩,fun _ h=>h⟩
   ·split at h
    ·rename_i hsol
     cases h
     exact ⟨H,φ,Ae.refl hs,.of_keeps (By.refl _ _ _),Zy.of_VF (hv.solid hsol),fun _ h=>h⟩
    ·cases h
  ·cases hk:s.keep v with
   | none=>rw [hk] at h; cases h
   | some x =>
    obtain ⟨a',s1⟩:=x
    rw [hk] at h
    cases h
    obtain ⟨H1,g1,k1,f1,e1,_⟩:=Vg hs hv hk
    exact ⟨H1,φ,g1,.of_keeps k1,Zy.of_VF f1,fun tmps hf=>by rw [e1]; exact hf.mono g1.le k1⟩
theorem gS:∀ {cs vs aw:List AV} {s s':St} {own:Bool} {ids:List Nat} {us:List Value} {H:HP} {φ:CG},SR H φ s.st w->Aq (VC H φ s.st) vs us->s.intoAll own cs vs=some (aw,s',ids) ->
  ∃ H' φ',Ae H φ s.st w H' φ' s'.st w/\Cw φ s.st φ' s'.st ids/\Aq (Zy H' φ' s'.st) aw us/\(∀ tmps,Gw H φ s.st s.fr tmps->Gw H' φ' s'.st s'.fr tmps)
 | [],[],aw,s,s',own,ids,us,H,φ,hs,hv,h=>by
  cases h
  cases hv
  exact ⟨H,φ,Ae.refl hs,.of_keeps (By.refl _ _ _),rfl,fun _ h=>h⟩
 | [],_::_,aw,s,s',own,ids,us,H,φ,hs,hv,h=>by simp [St.intoAll] at h
 | _::_,[],aw,s,s',own,ids,us,H,φ,hs,hv,h=>by simp [St.intoAll] at h
 | c::cs,v::vs,aw,s,s',own,ids,us,H,φ,hs,hv,h=>by
  obtain ⟨u,r,rfl,hu,hr⟩:=hv
  simp only [St.intoAll] at h
  cases h1:s.into own c v with
  | none=>rw [h1] at h; cases h
  | some y =>
   obtain ⟨a1,s1,i1⟩:=y
   rw [h1] at h
   simp only [Z] at h
   cases h2:s1.intoAll own cs (vs.map (AV.kill1 i1)) with
   | none=>rw [h2] at h; cases h
   | some z =>
    obtain ⟨a2,s2,i2⟩:=z
    rw [h2] at h
    simp only [Z] at h
    split at h
    ·cases h
    ·rename_i hn
     cases h
     obtain ⟨H1,φ1,g1,k1,t1,f1⟩:=yB hs hu h1
     obtain ⟨H2,φ2,g2,k2,t2,f2⟩:=gS g1.sr (hr.map fun _ _ h=>h.kill_mono g1.le k1) h2
     exact ⟨H2,φ2,g1.trans g2,k1.trans k2,⟨u,r,rfl,t1.mono g2.le k2 (by simpa using hn),t2⟩,fun tmps hf=>f2 tmps (f1 tmps hf)⟩
theorem Aq.splice {R:AV->Value->Prop} {aw cs:List AV} {vs us:List Value} {o:Nat} (h:Aq R cs us) (g:Aq R aw vs) (ho:o+aw.length<=cs.length) :
  Aq R (putCells cs o aw) (us.take o++vs++us.drop (o+vs.length)):=by
 rw [S_ aw cs o ho,g.length]
 exact ((h.take o).append g).append (h.drop _)
theorem yC {s s':St} {a a':AV} (h:s.keep a=some (a',s')) {i:Nat} {b:AS} (hi:s'.st[i]? = some b) (hl:b.live=true):s.st[i]? = some b:=by
 cases a with
 | row id =>
  simp only [St.keep] at h
  split at h
  ·cases h
   simp only [BD] at hi
   split at hi
   ·split at hi
    ·cases hi; cases hl
    ·cases hi
   ·exact hi
  ·cases h; exact hi
  ·cases h
 | fn f caps=>cases caps<;>first | (cases h; exact hi) | cases h
 | _=>first | (cases h; exact hi) | cases h
theorem RI:∀ {aw aw':List AV} {s s':St},s.keepAll aw=some (aw',s')->True/\∀ {i:Nat} {b:AS},s'.st[i]? = some b->b.live=true->s.st[i]? = some b
 | [],aw',s,s',h=>by cases h; exact ⟨trivial,fun hi _=>hi⟩
 | a::aw,aw',s,s',h=>by
  simp only [St.keepAll] at h
  cases hk:s.keep a with
  | none=>rw [hk] at h; cases h
  | some x =>
   rw [hk] at h
   simp only [Z] at h
   cases hq:x.2.keepAll aw with
   | none=>rw [hq] at h; cases h
   | some y =>
    rw [hq] at h
    cases h
    exact ⟨trivial,fun hi hl=>yC hk ((RI hq).2 hi hl) hl⟩
theorem td {s s':St} {own:Bool} {p:AV} {pv:Value} {aw:List AV} {v:Value} {t:TypeId} {tmps:Array Value} (hs:SR H φ s.st w) (hf:Gw H φ s.st s.fr tmps) (hp:VC H φ s.st p pv)
  (hv:Aq (VC H φ s.st) aw v.cells.toList) (h:s.storeAt own p aw=some s') (hsz:xF P t aw.length=true) :
  ∃ H' φ' w',(Instr.storeAt t pv v).run P w=.ok () w'/\Ae H φ s.st w H' φ' s'.st w'/\Gw H' φ' s'.st s'.fr tmps /\
   ∀ (i:Nat) (bx:AS),s.st[i]? = some bx->bx.live=true->(∀ id,((∃ off,p=.ptr id off)\/∃ j off,p=.eptr id j off)->i≠id)->∀ b,DZ (φ i)=some b->w'.heap[b]? = w.heap[b]? := by
 have aside:∀ {id i:Nat} {bi bx:AS} {b:Nat} {cs:Array Value},s.st[id]? = some bi->bi.live=true->DZ (φ id)=some b->s.st[i]? = some bx->bx.live=true->i≠id->∀ b',DZ (φ i)=some b'->(w.setRow b cs).heap[b']? = w.heap[b']? := by
  intro id i bi bx b cs h1 h2 h3 h4 h5 h6 b' h7
  exact (L8 w b cs).block b' ((hs.box i bx h4).blk_lt h5 h7) (fun e=>by cases e; exact hs.sep i id bx bi h4 h1 h5 h2 h6 _ h7 h3)
 have hlen:v.cells.size=aw.length:=by simpa using hv.length
 cases p with
 | ptr id off =>
  obtain ⟨hva,b,e1,e2⟩:=hp
  simp only [St.storeAt] at h
  cases hb:s.st[id]? with
  | none=>rw [hb] at h; cases h
  | some bx =>
   rw [hb] at h
   cases bx with
   | var cs =>
    simp only at h
    split at h
    ·rename_i hle
     cases hq:s.intoAll own ((cs.drop off).take aw.length) aw with
     | none=>rw [hq] at h; cases h
     | some y =>
      obtain ⟨as1,s1,ids⟩:=y
      rw [hq] at h
      simp only [Z] at h
      split at h
      ·rename_i cs' hb'
       cases h
       obtain ⟨l1,l2,l3⟩:=Xa hq
       obtain ⟨H1,φ1,g1,k1,t1,f1⟩:=gS hs hv hq
       obtain ⟨hφ,_,hva1⟩:=k1.2 id (XX hva)
       have hva1:=hva1.trans hva
       have hs1:=g1.sr
       obtain ⟨b',c,el,e3,hh,hc⟩:=hs1.box id _ hb'
       rw [hφ,e1] at e3
       cases e3
       have hcl:c.size=cs'.length:=by simpa using hc.length
       have hcl0:cs'.length=cs.length:=by
        obtain ⟨b2,c2,el2,e4,hh2,hc2⟩:=hs.box id _ hb
        rw [e1] at e4
        cases e4
        rw [hh] at hh2
        cases hh2
        have:=hc.length.symm.trans hc2.length
        exact this
       have hlt:id<s1.st.length:=(Aj.1 hb').1
       have hone:∀ u∈v.cells.toList,u.oneCell'=true:=fun u hu=>by
        obtain ⟨j,hj,rfl⟩:=EK hu
        obtain ⟨a,ha,hva⟩:=hv.mem j _ (List.getElem?_eq_getElem hj)
        exact (pJ hs (l3 a (List.mem_of_getElem? ha)) hva).1
       have hrun:=XZ (P:=P) (t:=t) (v:=v) hh (by rw [hlen]; exact hsz) (o:=off) (by omega) hone
       have hl2:as1.length=aw.length:=l2
       have hle':off+as1.length<=cs'.length:=by omega
       have hkn:AN s1.st id=none:=by simp only [AN,hb']
       have hfit:off+v.cells.toList.length<=c.toList.length:=by simp only [Array.length_toList]; omega
       have hw':(w.setRow b (c.toList.take off++v.cells.toList++c.toList.drop (off+v.cells.toList.length)).toArray).heap[b]? = some (.cells (c.toList.take off++v.cells.toList++c.toList.drop (off+v.cells.toList.length)).toArray el (0,0)):=setRow_heap w b _ _ el (0,0) hh
       have hst:=Ae.update (w':=w.setRow b (c.toList.take off++v.cells.toList++c.toList.drop (off+v.cells.toList.length)).toArray) (v':=φ1 id) (bx':=.var (putCells cs' off as1)) hs1 hb' rfl
        (by rw [hφ,e1]; exact L8 w b _)
        ⟨b,_,el,hφ.trans e1,hw',by simp only; exact hc.splice (t1.imp fun _ _ h=>h.1 _ _) hle'⟩
        (fun b hb=>.inl hb) (.inl ⟨rfl,rfl⟩)
        (fun k ck hk o ho=>by have:=(hs1.cell k ck hk o id ho).1; rw [hkn] at this; cases this)
        (fun ck hck o i ho=>by
         cases hck
         have hne:∀ {q},(AN s1.st q).isSome=true->q≠id:=fun {q} g e=>by subst e; rw [hkn] at g; cases g
         have hcell:∀ u,(c.toList.take off++v.cells.toList++c.toList.drop (off+v.cells.toList.length))[o]? = some u ->
           (w.setRow b (c.toList.take off++v.cells.toList++c.toList.drop (off+v.cells.toList.length)).toArray).cell? ⟨b,o,none⟩=some u:=fun u hu=>by
          simp only [World.cell?,hw']
          simpa using hu
         rw [S_ as1 cs' off hle',Dd _ _ _ _ hle'] at ho
         have hvl:v.cells.toList.length=as1.length:=by simp only [Array.length_toList]; omega
         by_cases h1:o<off
         ·rw [if_pos h1] at ho
          obtain ⟨c1,b3,c2,c3⟩:=hs1.cell id cs' hb' o i ho
          rw [hφ,e1] at c2
          cases c2
          refine ⟨hne c1,c1,b,hφ.trans e1,hcell _ ?_⟩
          rw [Dd _ _ _ _ hfit,if_pos h1]
          simpa [World.cell?,hh] using c3
         ·rw [if_neg h1] at ho
          by_cases h2:o<off+as1.length
          ·rw [if_pos h2] at ho
           obtain ⟨u,hu,htold⟩:=t1.get _ _ ho
           obtain ⟨c1,c2⟩:=htold.2 i rfl
           refine ⟨hne c1,c1,b,hφ.trans e1,hcell _ ?_⟩
           rw [Dd _ _ _ _ hfit,if_neg h1,if_pos (by omega),hu,c2]
          ·rw [if_neg h2] at ho
           obtain ⟨c1,b3,c2,c3⟩:=hs1.cell id cs' hb' o i ho
           rw [hφ,e1] at c2
           cases c2
           refine ⟨hne c1,c1,b,hφ.trans e1,hcell _ ?_⟩
           rw [Dd _ _ _ _ hfit,if_neg h1,if_neg (by omega)]
           simpa [World.cell?,hh] using c3)
       refine ⟨H1,_,_,by rw [e2]; exact hrun,g1.trans hst,?_,fun i bx hi hl hn b' hb'=>aside hb rfl (by rw [e1]; rfl) hi hl (hn id (.inl ⟨off,rfl⟩)) b' hb'⟩
       refine (f1 tmps hf).mono (HP.le_refl _) (cM ?_ ?_ ?_ rfl)
       ·have e4:(s1.st.set id (AS.var (putCells cs' off as1)))[id]? = some (.var (putCells cs' off as1)):=by rw [BD]; simp [hlt]
        simp only [AN,e4,hb']
       ·have e4:(s1.st.set id (AS.var (putCells cs' off as1)))[id]? = some (.var (putCells cs' off as1)):=by rw [BD]; simp [hlt]
        simp only [Ak,e4,hb']
       ·have e4:(s1.st.set id (AS.var (putCells cs' off as1)))[id]? = some (.var (putCells cs' off as1)):=by rw [BD]; simp [hlt]
        simp only [AW,e4,hb']; rfl
      ·cases h
    ·cases h
   | _=>cases h
 | eptr id i off =>
  simp only [St.storeAt] at h
  cases hq:s.keepAll aw with
  | none=>rw [hq] at h; cases h
  | some z =>
  obtain ⟨as1,s1⟩:=z
  rw [hq] at h
  simp only [Z] at h
  obtain ⟨H1,g1,k1,hv,fe,_⟩:=RH hs hv hq
  have hp:=VC.mono g1.le k1 (a:=.eptr id i off) hp
  have hf:Gw H1 φ s1.st s1.fr tmps:=by rw [fe]; exact hf.mono g1.le k1
  have hs0:=hs
  have hs:=g1.sr
  have hlen:v.cells.size=as1.length:=by simpa using hv.length
  have hsz:xF P t as1.length=true:=by rw [<- hlen,show v.cells.size=aw.length by assumption]; exact hsz
  obtain ⟨b,n,cap,K,hk,hi,e1,e2⟩:=hp
  cases hb:s1.st[id]? with
  | none=>rw [hb] at h; cases h
  | some bx =>
   rw [hb] at h
   cases bx with
   | rows t0 K' xs =>
    simp only at h
    split at h
    case isFalse=>cases h
    rename_i hoff
    simp only [AN,hb,BG,Prod.mk.injEq] at hk
    obtain ⟨rfl,rfl⟩:=hk
    obtain ⟨flat,ho,hr⟩:=hs.box id _ hb
    have hlt:id<s1.st.length:=(Aj.1 hb).1
    cases hd:K'.dec (putCells (K'.enc (xs.getD i K'.zero)) off as1) with
    | none=>rw [hd] at h; cases h
    | some y =>
     obtain ⟨x',r'⟩:=y
     rw [hd] at h
     simp only [Z,BG] at h
     subst h
     rcases ho.2 with ⟨e3,hn⟩ | ⟨g,cap',cur,e3,_,hg,hc,hm,hcs,ht⟩
     ·rw [e1] at e3; cases e3
     rw [e1] at e3
     simp only [Value.slice.injEq,BG,Addr.mk.injEq] at e3
     obtain ⟨⟨rfl,_⟩,_,rfl⟩:=e3
     have hle1:(i+1)*K'.sz<=xs.length*K'.sz:=CH _ hi
     have hle2:xs.length*K'.sz<=cap*K'.sz:=CH _ hc
     rw [Nat.succ_mul] at hle1
     have hvl:v.cells.toList.length=as1.length:=by simpa using hlen
     have hfit:i*K'.sz+off+v.cells.toList.length<=cur.toList.length:=by simp only [Array.length_toList]; omega
     have hfit2:i*K'.sz+off+v.cells.toList.length<=flat.length:=by rw [ho.1]; omega
     have hrun:=XZ (P:=P) (t:=t) (v:=v) hg (by rw [hlen]; exact hsz) (o:=i*K'.sz+off) (by simp only [Array.length_toList] at hfit; rw [hlen]; omega) hv.oneCell
     let flat':=flat.take (i*K'.sz+off)++v.cells.toList++flat.drop (i*K'.sz+off+v.cells.toList.length)
     have hown':(w.setRow b (cur.toList.take (i*K'.sz+off)++v.cells.toList++cur.toList.drop (i*K'.sz+off+v.cells.toList.length)).toArray).ownsRow 0 t0 K'.sz (φ id) (xs.set i x').length flat':=by
      refine ⟨?_,.inr ⟨b,cap,_,?_,Nat.zero_le _,setRow_heap w b _ _ t0 (0,0) hg,by simpa using hc,hm,?_,?_⟩⟩
      ·simp only [flat']
       rw [IG _ _ _ hfit2]
       simpa using ho.1
      ·rw [e1]; simp
      ·simp only [List.size_toArray]
       rw [IG _ _ _ hfit]
       simpa using hcs
      ·simp only [List.length_set]
       apply List.ext_getElem?
       intro k
       simp only [flat']
       rw [Bz,Dd _ _ _ _ hfit,Dd _ _ _ _ hfit2,<- ht]
       simp only [Bz]
       by_cases hk1:k<xs.length*K'.sz
       ·simp [hk1]
       ·rw [if_neg hk1]
        simp only [hk1,if_false]
        rw [if_neg (by omega),if_neg (by omega)]
     have hrep':Dx H1 K' (xs.set i x') flat':=by
      intro j x hx
      by_cases hji:j=i
      ·subst hji
       rw [BD] at hx
       simp only [hi,if_true,BG] at hx
       subst hx
       have hold:xs[j]? = some (xs.getD j K'.zero):=by simp [List.getD,hi]
       have hseg:=hr j _ hold
       have henc:=I8.of_rep hseg
       have hsp:=henc.splice hv (by rw [XY]; exact hoff)
       obtain ⟨c1,c2,f1,f2,f3⟩:=Hh K' hsp hd
       have hl1:=f2.length
       have hl2:(((flat.drop (j*K'.sz)).take K'.sz).take off++v.cells.toList++((flat.drop (j*K'.sz)).take K'.sz).drop (off+v.cells.toList.length)).length=K'.sz:=by
        have:=hseg.length
        rw [IG _ _ _ (by rw [this,hvl]; exact hoff)]
        exact this
       have hc2:c2=[]:=by
        have:=congrArg List.length f1
        rw [hl2,List.length_append,hl1] at this
        exact DV.1 (by omega)
       subst hc2
       rw [List.append_nil] at f1
       have hfinal:((flat'.drop (j*K'.sz)).take K'.sz)=c1:=by
        rw [<- f1]
        apply List.ext_getElem?
        intro k
        have hsl:=hseg.length
        rw [Dd _ _ _ _ (by rw [hsl,hvl]; exact hoff)]
        simp only [Bz,C3,flat']
        rw [Dd _ _ _ _ hfit2]
        by_cases hk:k<K'.sz
        ·simp only [hk,if_true]
         by_cases h1:k<off
         ·rw [if_pos (by omega),if_pos h1]
         ·rw [if_neg (by omega),if_neg h1]
          by_cases h2:k<off+v.cells.toList.length
          ·rw [if_pos (by omega),if_pos h2]
           congr 1
           omega
          ·rw [if_neg (by omega),if_neg h2]
        ·simp only [hk,if_false]
         rw [if_neg (by omega),if_neg (by omega)]
       rw [hfinal]
       exact f2
      ·rw [BD,if_neg (Ne.symm hji)] at hx
       have hseg:=hr j x hx
       have hj:j<xs.length:=(Aj.1 hx).1
       have hfinal:((flat'.drop (j*K'.sz)).take K'.sz)=((flat.drop (j*K'.sz)).take K'.sz):=by
        apply List.ext_getElem?
        intro k
        simp only [Bz,C3,flat']
        rw [Dd _ _ _ _ hfit2]
        by_cases hk:k<K'.sz
        ·simp only [hk,if_true]
         rcases Nat.lt_or_gt_of_ne hji with hlt' | hgt'
         ·have:(j+1)*K'.sz<=i*K'.sz:=CH _ hlt'
          rw [Nat.succ_mul] at this
          rw [if_pos (by omega)]
         ·have:(i+1)*K'.sz<=j*K'.sz:=CH _ hgt'
          rw [Nat.succ_mul] at this
          rw [if_neg (by omega),if_neg (by omega)]
        ·simp only [hk,if_false]
       rw [hfinal]
       exact hseg
     have e4:(s1.st.set id (AS.rows t0 K' (xs.set i x')))[id]? = some (.rows t0 K' (xs.set i x')):=by rw [BD]; simp [hlt]
     refine ⟨H1,fun i=>if i=id then φ id else φ i,_,by rw [e2]; exact hrun,g1.trans (Ae.update hs hb rfl ?_ ⟨flat',hown',hrep'⟩ (fun b hb=>.inl hb) (.inr (by simp only [AW,hb]; rfl)) ?_ ?_),?_,?_⟩
     rotate_right
     ·intro i' bx' hi' hl' hn' b' hb'
      obtain ⟨_,hbr⟩:=RI hq
      exact aside (hbr hb rfl) rfl (by rw [e1]; rfl) hi' hl' (hn' id (.inr ⟨i,off,rfl⟩)) b' hb'
     ·rw [e1]; exact L8 w b _
     ·exact fun k cs _ o _=>⟨rfl,by simp only [AN,e4]; rfl⟩
     ·exact fun cs hcs=>by cases hcs
     ·refine hf.mono (HP.le_refl _) (cM ?_ ?_ ?_ rfl)
      ·simp only [AN,e4,hb,List.length_set]
      ·simp only [Ak,e4,hb]
      ·simp only [AW,e4,hb]; rfl
   | mrow t0 K' xs =>
    simp only at h
    split at h
    case isFalse=>cases h
    rename_i hoff
    simp only [AN,hb,BG,Prod.mk.injEq] at hk
    obtain ⟨rfl,rfl⟩:=hk
    obtain ⟨flat,ho,hr⟩:=hs.box id _ hb
    have hlt:id<s1.st.length:=(Aj.1 hb).1
    cases hd:K'.dec (putCells (K'.enc (xs.getD i K'.zero)) off as1) with
    | none=>rw [hd] at h; cases h
    | some y =>
     obtain ⟨x',r'⟩:=y
     rw [hd] at h
     simp only [Z,BG] at h
     subst h
     rcases ho.2 with ⟨e3,hn⟩ | ⟨g,cap',cur,e3,_,hg,hc,hm,hcs,ht⟩
     ·rw [e1] at e3; cases e3
     rw [e1] at e3
     simp only [Value.slice.injEq,BG,Addr.mk.injEq] at e3
     obtain ⟨⟨rfl,_⟩,_,rfl⟩:=e3
     have hle1:(i+1)*K'.sz<=xs.length*K'.sz:=CH _ hi
     have hle2:xs.length*K'.sz<=cap*K'.sz:=CH _ hc
     rw [Nat.succ_mul] at hle1
     have hvl:v.cells.toList.length=as1.length:=by simpa using hlen
     have hfit:i*K'.sz+off+v.cells.toList.length<=cur.toList.length:=by simp only [Array.length_toList]; omega
     have hfit2:i*K'.sz+off+v.cells.toList.length<=flat.length:=by rw [ho.1]; omega
     have hrun:=XZ (P:=P) (t:=t) (v:=v) hg (by rw [hlen]; exact hsz) (o:=i*K'.sz+off) (by simp only [Array.length_toList] at hfit; rw [hlen]; omega) hv.oneCell
     let flat':=flat.take (i*K'.sz+off)++v.cells.toList++flat.drop (i*K'.sz+off+v.cells.toList.length)
     have hown':(w.setRow b (cur.toList.take (i*K'.sz+off)++v.cells.toList++cur.toList.drop (i*K'.sz+off+v.cells.toList.length)).toArray).ownsRow 0 t0 K'.sz (φ id) (xs.set i x').length flat':=by
      refine ⟨?_,.inr ⟨b,cap,_,?_,Nat.zero_le _,setRow_heap w b _ _ t0 (0,0) hg,by simpa using hc,hm,?_,?_⟩⟩
      ·simp only [flat']
       rw [IG _ _ _ hfit2]
       simpa using ho.1
      ·rw [e1]; simp
      ·simp only [List.size_toArray]
       rw [IG _ _ _ hfit]
       simpa using hcs
      ·simp only [List.length_set]
       apply List.ext_getElem?
       intro k
       simp only [flat']
       rw [Bz,Dd _ _ _ _ hfit,Dd _ _ _ _ hfit2,<- ht]
       simp only [Bz]
       by_cases hk1:k<xs.length*K'.sz
       ·simp [hk1]
       ·rw [if_neg hk1]
        simp only [hk1,if_false]
        rw [if_neg (by omega),if_neg (by omega)]
     have hrep':Dx H1 K' (xs.set i x') flat':=by
      intro j x hx
      by_cases hji:j=i
      ·subst hji
       rw [BD] at hx
       simp only [hi,if_true,BG] at hx
       subst hx
       have hold:xs[j]? = some (xs.getD j K'.zero):=by simp [List.getD,hi]
       have hseg:=hr j _ hold
       have henc:=I8.of_rep hseg
       have hsp:=henc.splice hv (by rw [XY]; exact hoff)
       obtain ⟨c1,c2,f1,f2,f3⟩:=Hh K' hsp hd
       have hl1:=f2.length
       have hl2:(((flat.drop (j*K'.sz)).take K'.sz).take off++v.cells.toList++((flat.drop (j*K'.sz)).take K'.sz).drop (off+v.cells.toList.length)).length=K'.sz:=by
        have:=hseg.length
        rw [IG _ _ _ (by rw [this,hvl]; exact hoff)]
        exact this
       have hc2:c2=[]:=by
        have:=congrArg List.length f1
        rw [hl2,List.length_append,hl1] at this
        exact DV.1 (by omega)
       subst hc2
       rw [List.append_nil] at f1
       have hfinal:((flat'.drop (j*K'.sz)).take K'.sz)=c1:=by
        rw [<- f1]
        apply List.ext_getElem?
        intro k
        have hsl:=hseg.length
        rw [Dd _ _ _ _ (by rw [hsl,hvl]; exact hoff)]
        simp only [Bz,C3,flat']
        rw [Dd _ _ _ _ hfit2]
        by_cases hk:k<K'.sz
        ·simp only [hk,if_true]
         by_cases h1:k<off
         ·rw [if_pos (by omega),if_pos h1]
         ·rw [if_neg (by omega),if_neg h1]
          by_cases h2:k<off+v.cells.toList.length
          ·rw [if_pos (by omega),if_pos h2]
           congr 1
           omega
          ·rw [if_neg (by omega),if_neg h2]
        ·simp only [hk,if_false]
         rw [if_neg (by omega),if_neg (by omega)]
       rw [hfinal]
       exact f2
      ·rw [BD,if_neg (Ne.symm hji)] at hx
       have hseg:=hr j x hx
       have hj:j<xs.length:=(Aj.1 hx).1
       have hfinal:((flat'.drop (j*K'.sz)).take K'.sz)=((flat.drop (j*K'.sz)).take K'.sz):=by
        apply List.ext_getElem?
        intro k
        simp only [Bz,C3,flat']
        rw [Dd _ _ _ _ hfit2]
        by_cases hk:k<K'.sz
        ·simp only [hk,if_true]
         rcases Nat.lt_or_gt_of_ne hji with hlt' | hgt'
         ·have:(j+1)*K'.sz<=i*K'.sz:=CH _ hlt'
          rw [Nat.succ_mul] at this
          rw [if_pos (by omega)]
         ·have:(i+1)*K'.sz<=j*K'.sz:=CH _ hgt'
          rw [Nat.succ_mul] at this
          rw [if_neg (by omega),if_neg (by omega)]
        ·simp only [hk,if_false]
       rw [hfinal]
       exact hseg
     have e4:(s1.st.set id (AS.mrow t0 K' (xs.set i x')))[id]? = some (.mrow t0 K' (xs.set i x')):=by rw [BD]; simp [hlt]
     refine ⟨H1,fun i=>if i=id then φ id else φ i,_,by rw [e2]; exact hrun,g1.trans (Ae.update hs hb rfl ?_ ⟨flat',hown',hrep'⟩ (fun b hb=>.inl hb) (.inl ⟨rfl,rfl⟩) ?_ ?_),?_,?_⟩
     rotate_right
     ·intro i' bx' hi' hl' hn' b' hb'
      obtain ⟨_,hbr⟩:=RI hq
      exact aside (hbr hb rfl) rfl (by rw [e1]; rfl) hi' hl' (hn' id (.inr ⟨i,off,rfl⟩)) b' hb'
     ·rw [e1]; exact L8 w b _
     ·exact fun k cs _ o _=>⟨rfl,by simp only [AN,e4]; rfl⟩
     ·exact fun cs hcs=>by cases hcs
     ·refine hf.mono (HP.le_refl _) (cM ?_ ?_ ?_ rfl)
      ·simp only [AN,e4,hb,List.length_set]
      ·simp only [Ak,e4,hb]
      ·simp only [AW,e4,hb]; rfl
   | byt t0 xs =>
    simp only at h
    split at h
    case isFalse=>cases h
    rename_i hoff
    subst hoff
    split at h
    case h_2=>cases h
    rename_i c
    cases h
    simp only [AN,hb,BG,Prod.mk.injEq] at hk
    obtain ⟨rfl,rfl⟩:=hk
    obtain ⟨g,cap',cur,fz,e3,hg,hz,hcp,hcc⟩:=hs.box id _ hb
    have hlt:id<s1.st.length:=(Aj.1 hb).1
    rw [e1] at e3
    cases e3
    obtain ⟨u,r,eu,hu,hr⟩:=hv
    have hr:r=[]:=hr
    subst hr
    have hu:u=.int .u8 c:=hu
    subst hu
    have hvc:v.cells=#[.int .u8 c]:=by rw [<- Array.toArray_toList (xs:=v.cells),eu]
    have hil:i<cur.size:=by
     have:=hcc i (xs[i]) (by simp)
     exact (Array.getElem?_eq_some_iff.1 this).1
    have hrun:=tc (P:=P) (t:=t) (v:=v) (o:=i) hg (by rw [hvc]; simpa using hsz) hvc hil (by omega) rfl
    have hg2:(w.setCell ⟨b,i,none⟩ (.int .u8 c)).heap[b]? = some (.cells (cur.setIfInBounds i (.int .u8 c)) t0 fz):=by simp [World.setCell,Array.getElem?_modify,hg]
    have e4:(s1.st.set id (AS.byt t0 (xs.set i c)))[id]? = some (.byt t0 (xs.set i c)):=by rw [BD]; simp [hlt]
    refine ⟨H1,fun i=>if i=id then φ id else φ i,_,by rw [e2]; simpa [Kd.sz] using hrun,g1.trans (Ae.update hs hb rfl ?_ ⟨b,cap,_,fz,by rw [e1]; simp,hg2,by simpa using hz,by simpa using hcp,fun j x hx=>?_⟩ (fun b hb=>.inl hb) (.inr (by simp only [AW,hb]; rfl)) ?_ ?_),?_,?_⟩
    rotate_right
    ·intro i' bx' hi' hl' hn' b' hb'
     obtain ⟨_,hbr⟩:=RI hq
     have hne:=hs0.sep i' id bx' _ hi' (hbr hb rfl) hl' rfl (hn' id (.inr ⟨i,0,rfl⟩)) b' hb'
     exact (KK w ⟨b,i,none⟩ _).block b' ((hs0.box i' bx' hi').blk_lt hl' hb') (fun e=>hne (by rw [e1]; exact e.symm))
    ·rw [e1]; exact KK w ⟨b,i,none⟩ _
    ·rw [BD] at hx
     by_cases hij:i=j
     ·subst hij
      rw [if_pos rfl,if_pos hi] at hx
      cases hx
      simp [hil]
     ·rw [if_neg hij] at hx
      have:=hcc j x hx
      simp [Array.getElem?_setIfInBounds,hij,this]
    ·exact fun k cs _ o _=>⟨rfl,by simp only [AN,e4]; rfl⟩
    ·exact fun cs hcs=>by cases hcs
    ·refine hf.mono (HP.le_refl _) (cM ?_ ?_ ?_ rfl)
     ·simp only [AN,e4,hb,List.length_set]
     ·simp only [Ak,e4,hb]
     ·simp only [AW,e4,hb]; rfl
   | _=>cases h
 | _=>cases h

theorem kC (base:Nat) (t ty e:TypeId) (i:TypeInfo) (size:Nat) (ht:P.underlying t=some (.slice e)) (hi:P.info? e=some i)
  (v:Value) (n c:Nat) (xs:List Value) (hown:w.ownsRow base e size v n xs):(Builtin.append_ #[t,t] ty #[v,.slice none 0 c]).run P w=.ok v w:=by
 rcases hown.2 with ⟨rfl,rfl⟩ | ⟨g,cap,cur,rfl,_,_,hnc,_⟩
 ·simp [Builtin.append_,run_underlying ht,sizeOf,typeInfo,hi,Builtin.lenOf,Builtin.firstCells]
 ·simp [Builtin.append_,run_underlying ht,sizeOf,typeInfo,hi,Builtin.lenOf,Builtin.firstCells,hnc,storeCells]
def Lb:Kd->List Value->Option (List Value)
 | .int k,.int k' n::r=>if k=k'/\n=0 then some r else none
 | .bool,.bool b::r=>if b=false then some r else none
 | .str,.string s::r=>if s=O then some r else none
 | .slice _,.slice none 0 0::r=>some r
 | .pair a b,cs=>(Lb a cs).bind (Lb b)
 | _,_=>none
theorem zE:∀ (K:Kd) (cs r:List Value),Lb K cs=some r->∃ c,cs=c++r/\GN H K K.zero c:=by
 intro K
 induction K with
 | int k =>
  intro cs r h
  cases cs with
  | nil=>simp [Lb] at h
  | cons v cs =>
   cases v<;>simp [Lb] at h
   obtain ⟨⟨rfl,rfl⟩,rfl⟩:=h
   exact ⟨[_],rfl,rfl⟩
 | bool =>
  intro cs r h
  cases cs with
  | nil=>simp [Lb] at h
  | cons v cs =>
   cases v<;>simp [Lb] at h
   obtain ⟨rfl,rfl⟩:=h
   exact ⟨[_],rfl,rfl⟩
 | str =>
  intro cs r h
  cases cs with
  | nil=>simp [Lb] at h
  | cons v cs =>
   cases v<;>simp [Lb] at h
   obtain ⟨rfl,rfl⟩:=h
   exact ⟨[_],rfl,rfl⟩
 | slice e ih =>
  intro cs r h
  cases cs with
  | nil=>simp [Lb] at h
  | cons v cs =>
   cases v with
   | slice a n c =>
    unfold Lb at h
    split at h
    all_goals first | cases h | skip
    all_goals (try rename_i e1 e2)
    all_goals (try cases e1)
    all_goals (try cases e2)
    all_goals first | exact ⟨[_],rfl,⟨_,rfl,Ve⟩⟩ | skip
    all_goals simp_all
   | _=>simp [Lb] at h
 | pair a b iha ihb =>
  intro cs r h
  simp only [Lb] at h
  cases h1:Lb a cs with
  | none=>rw [h1] at h; cases h
  | some r1 =>
   rw [h1] at h
   simp only [Z] at h
   obtain ⟨c1,e1,g1⟩:=iha _ _ h1
   obtain ⟨c2,e2,g2⟩:=ihb _ _ h
   exact ⟨c1++c2,by rw [e1,e2,Be],⟨c1,c2,rfl,g1,g2⟩⟩
 | own t e ih=>intro cs r h; simp [Lb] at h
 | ref K ih=>intro cs r h; simp [Lb] at h
 | «fun» f=>intro cs r h; simp [Lb] at h
 | clo f K ih=>intro cs r h; simp [Lb] at h
def r4 (P:Program) (e:TypeId) (K:Kd):Bool :=
 match P.info? e with
 | some i=>i.size==K.sz&&decide (i.bytes<=2048)&&(match i.zero.map fun z=>Lb K z.cells.toList with | some (some [])=>true | _=>false)
 | none=>false
theorem Vh {e:TypeId} {K:Kd} (h:r4 P e K=true):∃ i z,P.info? e=some i/\i.zero=some z/\i.size=K.sz/\i.bytes<=2048/\z.cells.size=K.sz/\∀ H,GN H K K.zero z.cells.toList:=by
 unfold r4 at h
 cases hi:P.info? e with
 | none=>rw [hi] at h; cases h
 | some i =>
  rw [hi] at h
  simp only [AC,beq_iff_eq,decide_eq_true_eq] at h
  obtain ⟨⟨h1,h2⟩,h3⟩:=h
  cases hz:i.zero with
  | none=>rw [hz] at h3; cases h3
  | some z =>
   rw [hz] at h3
   simp only [Option.map_some] at h3
   have hq:Lb K z.cells.toList=some []:=by
    split at h3
    ·rename_i e; simpa using e
    ·cases h3
   have hr:∀ H,GN H K K.zero z.cells.toList:=fun H=>by
    obtain ⟨c,e1,e2⟩:=zE (H:=H) K _ _ hq
    rw [List.append_nil] at e1
    rw [e1]
    exact e2
   refine ⟨i,z,rfl,hz,h1,h2,?_,hr⟩
   have:=(hr fun _=>none).length
   simpa using this
theorem IH {K:Kd} {xs ys:List K.T} {f g:List Value} (hf:Dx H K xs f) (hl:f.length=xs.length*K.sz) (hg:Dx H K ys g):Dx H K (xs++ys) (f++g):=by
 intro j x hx
 rcases B6 j xs.length with hj | hj
 ·rw [BF hj] at hx
  have:=hf j x hx
  have hle:(j+1)*K.sz<=xs.length*K.sz:=CH _ hj
  rw [Nat.succ_mul] at hle
  have e:((f++g).drop (j*K.sz)).take K.sz=(f.drop (j*K.sz)).take K.sz:=by
   rw [List.drop_append_of_le_length (by omega),List.take_append_of_le_length (by simp; omega)]
  rw [e]
  exact this
 ·rw [Ci hj] at hx
  have:=hg _ x hx
  have e:((f++g).drop (j*K.sz)).take K.sz=(g.drop ((j-xs.length)*K.sz)).take K.sz:=by
   have hle:xs.length*K.sz<=j*K.sz:=CH _ hj
   rw [List.drop_append,List.drop_eq_nil_of_le (by omega),List.nil_append,hl,Nat.sub_mul]
  rw [e]
  exact this
theorem Zz:∀ {K:Kd} {x:K.T} {cs:List Value},GN H K x cs->∀ v∈cs,v.oneCell'=true:=fun h=>(I8.of_rep h).oneCell
theorem De {K:Kd} {xs:List K.T} {f:List Value} (hf:Dx H K xs f) (hl:f.length=xs.length*K.sz):∀ v∈f,v.oneCell'=true:=by
 intro v hv
 obtain ⟨k,hk,rfl⟩:=EK hv
 have hsz:=Kd.sz_pos K
 have hj:k / K.sz<xs.length:=(Nat.div_lt_iff_lt_mul hsz).2 (by omega)
 have h:=hf (k / K.sz) (xs[k / K.sz]) (by simp)
 refine Zz h f[k] ?_
 have hm:=Nat.mod_lt k hsz
 have hdm:=Nat.div_add_mod k K.sz
 rw [Nat.mul_comm] at hdm
 refine List.mem_iff_getElem?.2 ⟨k % K.sz,?_⟩
 rw [Bz,if_pos hm,C3,hdm]
 simp [hk]
theorem gT {id:Nat} {e t ty:TypeId} {K:Kd} {xs ys:List K.T} {bv:Value} {flat2:List Value} {sl:Option Addr} {cap2:Nat}
  (hs:SR H φ st w) (hid:st[id]? = some (.rows e K xs)) (ht:P.underlying t=some (.slice e)) (he:r4 P e K=true)
  (e2:bv=.slice sl ys.length cap2) (hl2:flat2.length=ys.length*K.sz) (hr2:Dx H K ys flat2)
  (hc2:sl=none\/ys=[]\/∃ b off,sl=some ⟨b,off,none⟩/\∀ j u,flat2[j]? = some u->w.cell? ⟨b,off+j,none⟩=some u) (hn2:sl=none->ys=[])
  (hlim:xs.length+ys.length<=68719476736) (hnone:∀ (k:Nat) (cs:List AV),st[k]? = some (AS.var cs)->∀ (o:Nat),cs[o]? ≠ some (AV.row id)) :
  ∃ v' w',(Builtin.append_ #[t,t] ty #[φ id,bv]).run P w=.ok v' w' /\
   Ae H φ st w H (fun i=>if i=id then v' else φ i) (st.set id (.rows e K (xs++ys))) w'/\w.grownBy w' (DZ (φ id)):=by
 obtain ⟨i,z,hi,hz,h1,h2,h3,_⟩:=Vh he
 obtain ⟨flat,ho,hr⟩:=hs.box id _ hid
 have hsz:=Kd.sz_pos K
 have hb:(xs.length+ys.length)*i.bytes<=140737488355328:=by
  calc (xs.length+ys.length)*i.bytes<=68719476736*2048:=Nat.mul_le_mul hlim h2
   _=140737488355328:=by decide
 have hml:xs.length+ys.length<=maxLen:=by simp only [maxLen]; omega
 have fin:∀ v' w',w'.ownsRow 0 e K.sz v' (xs.length+ys.length) (flat++flat2)->w.grownBy w' (φ id).ownBlock->(∀ b,DZ v'=some b->DZ (φ id)=some b\/w.heap.size<=b) ->
   Ae H φ st w H (fun i=>if i=id then v' else φ i) (st.set id (.rows e K (xs++ys))) w'/\w.grownBy w' (DZ (φ id)):=by
  intro v' w' ho' hg' hn'
  have hbl:DZ (φ id)=(φ id).ownBlock:=by
   rcases ho.2 with ⟨e3,_⟩ | ⟨g,cap,cur,e3,_⟩<;>rw [e3]<;>rfl
  refine ⟨?_,by rw [hbl]; exact hg'⟩
  refine Ae.update hs hid rfl (by rw [hbl]; exact hg') ⟨flat++flat2,by rw [List.length_append]; exact ho',IH hr ho.1 hr2⟩ hn' (.inr (by simp only [AW,hid]; rfl)) (fun k cs hk o hq=>absurd hq (hnone k cs hk o)) (fun cs hcs=>by cases hcs)
 cases sl with
 | none =>
  obtain rfl:=hn2 rfl
  have hf2:flat2=[]:=DV.1 (by simpa using hl2)
  subst hf2
  subst e2
  refine ⟨φ id,w,kC (P:=P) (w:=w) 0 t ty e i K.sz ht hi (φ id) xs.length cap2 flat ho,fin _ _ (by simpa using ho) ?_ (fun b hb=>.inl hb)⟩
  exact ⟨rfl,rfl,rfl,Nat.le_refl _,fun _ _ _=>rfl⟩
 | some a =>
  subst e2
  have hnews:∀ j u,flat2[j]? = some u->w.cell? (a.add j)=some u:=by
   rcases hc2 with h | h | ⟨b,off,h,g⟩
   ·cases h
   ·subst h
    have hf2:flat2=[]:=DV.1 (by simpa using hl2)
    subst hf2
    intro j u hu; simp at hu
   ·cases h
    intro j u hu
    rw [Addr.add_mid]
    exact g j u hu
  obtain ⟨v',w',hrun,ho',hg',_⟩:=run_append_own (P:=P) w 0 t ty e i z K.sz i.bytes ht hi hz h1 rfl h3 hsz (φ id) xs.length flat ho a ys.length cap2 flat2 hl2 hnews
   (De hr2 hl2) hml hb (Nat.zero_le _)
  refine ⟨v',w',hrun,fin v' w' ho' hg' ?_⟩
  have h1':=De hr2 hl2
  rcases ho.2 with ⟨e3,hn⟩ | ⟨g,cap,cur,e3,_,hg,hnc,hcm,hcs,htake⟩
  ·-- a nil row: what comes of it is new,or nil
   obtain ⟨v2,w2,hrun2,ho2,_,_⟩:=run_append_own (P:=P) w w.heap.size t ty e i z K.sz i.bytes ht hi hz h1 rfl h3 hsz (φ id) xs.length flat
    ⟨ho.1,.inl ⟨e3,hn⟩⟩ a ys.length cap2 flat2 hl2 hnews h1' hml hb (Nat.le_refl _)
   have e4:=hrun.symm.trans hrun2
   simp only [Result.ok.injEq] at e4
   obtain ⟨rfl,rfl⟩:=e4
   intro b hb'
   right
   rcases ho2.2 with ⟨e5,_⟩ | ⟨g',cap',cur',e5,hbase,_⟩
   ·rw [e5] at hb'; cases hb'
   ·rw [e5] at hb'
    simp only [DZ,BG] at hb'
    omega
  ·by_cases hroom:xs.length+ys.length<=cap
   ·have hfit:xs.length*i.size+flat2.length<=cur.size:=by rw [hl2,hcs,h1,<- Nat.add_mul]; exact CH _ hroom
    have hrun2:=run_append_room (P:=P) w t ty e i ht hi g xs.length cap cur hg a ys.length cap2 flat2 (by rw [h1]; exact hl2) hnews h1' hroom hfit
    rw [<- e3] at hrun2
    have e4:=hrun.symm.trans hrun2
    simp only [Result.ok.injEq] at e4
    obtain ⟨rfl,_⟩:=e4
    intro b hb'
    left
    rw [e3]
    exact hb'
   ·have holds:∀ j u,flat[j]? = some u->w.cell? ((⟨g,0,none⟩:Addr).add j)=some u:=ho.cells (g:=g) (by rw [e3]; rfl)
    have hrun2:=run_append_grow (P:=P) w t ty e i z ht hi hz ⟨g,0,none⟩ xs.length cap flat (by rw [h1]; exact ho.1) holds a ys.length cap2 flat2 (by rw [h1]; exact hl2) hnews
     (by omega) (by omega) (growslice_fits (by omega) hb)
    rw [<- e3] at hrun2
    have e4:=hrun.symm.trans hrun2
    simp only [Result.ok.injEq] at e4
    obtain ⟨rfl,_⟩:=e4
    intro b hb'
    right
    simp only [DZ,BG] at hb'
    omega
theorem mx {id:Nat} {e t ty:TypeId} {K:Kd} {xs ys:List K.T} {bv:Value} {flat2:List Value} {sl:Option Addr} {cap2:Nat}
  (hs:SR H φ st w) (hid:st[id]? = some (.rows e K xs)) (ht:P.underlying t=some (.slice e)) (he:r4 P e K=true)
  (e2:bv=.slice sl ys.length cap2) (hl2:flat2.length=ys.length*K.sz) (hr2:Dx H K ys flat2)
  (hc2:sl=none\/ys=[]\/∃ b off,sl=some ⟨b,off,none⟩/\∀ j u,flat2[j]? = some u->w.cell? ⟨b,off+j,none⟩=some u) (hn2:sl=none->ys=[])
  (hlim:xs.length+ys.length<=68719476736) :
  ∃ v' w',(Builtin.append_ #[t,t] ty #[φ id,bv]).run P w=.ok v' w' /\
   Ae H φ st w H (fun i=>if i=id then v' else φ i) ((st.map (AS.kill [id])).set id (.rows e K (xs++ys))) w' /\
   Cw φ st (fun i=>if i=id then v' else φ i) ((st.map (AS.kill [id])).set id (.rows e K (xs++ys))) [id]/\w.grownBy w' (DZ (φ id)):=by
 have hid':(st.map (AS.kill [id]))[id]? = some (.rows e K xs):=by rw [CT,hid]; rfl
 obtain ⟨v',w',h1,h2,h3⟩:=gT (P:=P) (ty:=ty) (hs.kill [id]) hid' ht he e2 hl2 hr2 hc2 hn2 hlim fun k cs hk o hq=>by
  have:=RZ hk hq
  simp [Bx] at this
 have go:∀ j,j≠id->((st.map (AS.kill [id])).set id (.rows e K (xs++ys)))[j]? = (st.map (AS.kill [id]))[j]? := fun j hj=>by rw [BD,if_neg (Ne.symm hj)]
 have hvn:AW st id=false:=by simp only [AW,hid]; rfl
 refine ⟨v',w',h1,(Ae.kill hs [id]).trans h2,⟨fun j hn _=>?_,fun j hv=>?_⟩,h3⟩
 ·have hj:j≠id:=fun e=>by subst e; simp [Bx] at hn
  refine ⟨by simp [hj],?_,?_⟩
  ·rw [<- Gr (Ab [id]) st j]; simp only [AN,go j hj]
  ·rw [<- FY (Ab [id]) st j]; simp only [Ak,go j hj]
 ·have hj:j≠id:=fun e=>by subst e; rw [hvn] at hv; cases hv
  have t1:AW ((st.map (AS.kill [id])).set id (.rows e K (xs++ys))) j=AW (st.map (AS.kill [id])) j:=by simp only [AW,go j hj]
  have t2:Ak ((st.map (AS.kill [id])).set id (.rows e K (xs++ys))) j=Ak (st.map (AS.kill [id])) j:=by simp only [Ak,go j hj]
  exact ⟨by simp [hj],by rw [t1,Fg (Ab [id])]; exact hv,by rw [t2,FY (Ab [id])]⟩
def u6 (t:TypeId) (H:HP) (φ:CG) (st:List AS) (a:AV) (u:Value):Prop:=(∀ p,VW H p t a u)/\∀ i,a=.row i->(AN st i).isSome=true/\u=φ i
theorem Zy.toT {t:TypeId} {H:HP} {φ:CG} {st:List AS} {a:AV} {u:Value} (h:Zy H φ st a u):u6 t H φ st a u:=⟨fun p=>h.1 p t,h.2⟩
theorem my (hs:SR H φ st w) {t:TypeId} {v:Value} {cs:List AV} (hv:Aq (u6 t H φ st) cs v.cells.toList) :
  (newVar t v).run P w=.ok ⟨w.heap.size,0,none⟩ (w.alloc (.cells v.cells t)) /\
   Ae H φ st w H (fun i=>if i=st.length then .pointer (some ⟨w.heap.size,0,none⟩) else φ i) (st++[.var cs]) (w.alloc (.cells v.cells t)):=by
 refine ⟨by simp [newVar,newRow],Ae.push hs (World.grownBy_alloc w _ none) ⟨w.heap.size,v.cells,t,rfl,heap_alloc_new w _,hv.imp fun _ _ h=>h.1 _⟩ (fun _ b hb=>?_) (fun cs' e o i ho=>?_)⟩
 ·simp only [DZ,BG] at hb
  omega
 ·cases e
  obtain ⟨u,hu,ht⟩:=hv.get o _ ho
  obtain ⟨h1,h2⟩:=ht.2 i rfl
  refine ⟨h1,_,rfl,?_⟩
  simp only [World.cell?,heap_alloc_new]
  rw [<- h2]
  simpa using hu
def ZC (T:TypeId) (H:HP) (a:AV) (v:Value):Prop:=(∃ t K,a=.new t K []/\v=.slice none 0 0)\/VF H a v\/(a=.self T/\v=.pointer none)
theorem pK {k:Nat} {a:AV} {r:List AV} {v:Value} (h:VF H a v):BQ k (a::r)=a::BQ k r/\Aw (a::r)=Aw r/\AO (a::r)=AO r:=by
 cases a<;>first | exact ⟨rfl,rfl,rfl⟩ | exact h.elim
theorem Vi {T:TypeId}:∀ {cs:List AV} {vs:List Value} {st:List AS} {φ:CG},Aq (ZC T H) cs vs->SR H φ st w ->
  ∃ φ',Ae H φ st w H φ' (st++Aw cs) w/\By φ st φ' (st++Aw cs) none/\Aq (u6 T H φ' (st++Aw cs)) (BQ st.length cs) vs/\(st++Aw cs).length=st.length+AO cs
 | [],vs,st,φ,h,hs=>by
  cases h
  simp only [Aw,List.append_nil,BQ]
  exact ⟨φ,Ae.refl hs,By.refl _ _ _,rfl,rfl⟩
 | a::cs,vs,st,φ,⟨v,r,e,h,hr⟩,hs=>by
  subst e
  rcases h with ⟨t,K,rfl,rfl⟩ | h | ⟨rfl,rfl⟩
  ·have hst:Ae H φ st w H (fun i=>if i=st.length then .slice none 0 0 else φ i) (st++[.rows t K []]) w :=
    Ae.push hs ⟨rfl,rfl,rfl,Nat.le_refl _,fun _ _ _=>rfl⟩ ⟨[],⟨by simp,.inl ⟨rfl,rfl⟩⟩,fun j x hx=>by simp at hx⟩ (fun _ b hb=>by simp [DZ] at hb) (fun cs e=>by cases e)
   obtain ⟨φ',g1,g2,g3,g4⟩:=Vi hr hst.sr
   have e1:st++Aw (.new t K []::cs)=(st++[.rows t K []])++Aw cs:=by simp [Aw]
   have e2:BQ st.length (.new t K []::cs)=.row st.length::BQ (st++[AS.rows t K []]).length cs:=by simp [BQ]
   rw [e1,e2]
   refine ⟨φ',hst.trans g1,(E4 φ st _ _).trans g2,⟨_,_,rfl,⟨fun _=>trivial,fun i e=>?_⟩,g3⟩,?_⟩
   ·cases e
    obtain ⟨k1,k2,_⟩:=g2 st.length (by simp) (.inl (by simp [AN]))
    refine ⟨by rw [k2]; simp [AN],by rw [k1]; simp⟩
   ·rw [g4]; simp [AO,AV.isNew]; omega
  ·obtain ⟨o1,o2,o3⟩:=pK (k:=st.length) (r:=cs) h
   rw [o1,o2,o3]
   obtain ⟨φ',g1,g2,g3,g4⟩:=Vi hr hs
   exact ⟨φ',g1,g2,⟨_,_,rfl,(Zy.of_VF h).toT,g3⟩,g4⟩
  ·obtain ⟨φ',g1,g2,g3,g4⟩:=Vi hr hs
   exact ⟨φ',g1,g2,⟨_,_,rfl,⟨fun _=>⟨rfl,.inl rfl⟩,fun i e=>by cases e⟩,g3⟩,g4⟩
theorem Z0 (hs:SR H φ st w) {w':World} {e:TypeId} {K:Kd} {xs:List K.T} {v:Value} {flat:List Value} (hg:w.grownBy w' none)
  (ho:w'.ownsRow w.heap.size e K.sz v xs.length flat) (hr:Dx H K xs flat) :
  Ae H φ st w H (fun i=>if i=st.length then v else φ i) (st++[.rows e K xs]) w':=by
 refine Ae.push hs hg ⟨flat,⟨ho.1,?_⟩,hr⟩ (fun _ b hb=>?_) (fun cs e=>by cases e)
 ·rcases ho.2 with h | ⟨g,cap,cur,e1,_,r⟩
  ·exact .inl h
  ·exact .inr ⟨g,cap,cur,e1,Nat.zero_le _,r⟩
 ·rcases ho.2 with ⟨e1,_⟩ | ⟨g,cap,cur,e1,h1,_⟩
  ·rw [e1] at hb; cases hb
  ·rw [e1] at hb
   simp only [DZ,BG] at hb
   omega
end Go.Proofs.YtfcgblnlopemkaaGreatDoor.Core

namespace Go.Proofs.YtfcgblnlopemkaaGreatDoor.Core
open Go
variable {H:HP} {φ:CG} {w:World} {P:Program}
def kD:Value->AV->Bool
 | .int k n,.int k' n'=>decide (k=k')&&decide (n=n')
 | .bool b,.bool b'=>b==b'
 | .string s,.str s'=>decide (s=s')
 | .slice none 0 0,.nil=>true
 | .slice none 0 0,.lst _ xs=>xs.isEmpty
 | _,_=>false
theorem cO {v:Value} {a:AV} (h:kD v a=true):VF H a v:=by
 unfold kD at h
 split at h
 ·simp only [AC,decide_eq_true_eq] at h
  obtain ⟨rfl,rfl⟩:=h
  rfl
 ·simp only [beq_iff_eq] at h
  subst h
  rfl
 ·simp only [decide_eq_true_eq] at h
  subst h
  rfl
 ·rfl
 ·rw [List.isEmpty_iff] at h
  subst h
  exact Ve
 ·cases h
def Da:Operand->Cv->Bool
 | .tmp t,.t n=>t==n
 | .const _,.c .undef=>true
 | .const v,.c a=>kD v a
 | .func f,.c (.fn g caps)=>f==g&&caps.isEmpty
 | _,_=>false
theorem BX {s:St} {act:Act} {x:Operand} {y:Cv} (hf:Gw H φ s.st s.fr act.tmps) (h:Da x y=true):VA H φ s.st (s.opd y) (act.eval x):=by
 unfold Da at h
 split at h
 ·simp only [beq_iff_eq] at h
  subst h
  exact hf _
 ·trivial
 ·exact VA.of_VF (cO h)
 ·simp only [AC,beq_iff_eq,List.isEmpty_iff] at h
  obtain ⟨rfl,rfl⟩:=h
  exact ⟨rfl,rfl⟩
 ·cases h
def rp (W:List Nat) (φ:CG) (st:List AS) (w w':World):Prop :=
 ∀ (i:Nat) (bx:AS),st[i]? = some bx->bx.live=true->i∉W->∀ b,DZ (φ i)=some b->w'.heap[b]? = w.heap[b]?
theorem rp.refl (W:List Nat) (φ:CG) (st:List AS) (w:World):rp W φ st w w:=fun _ _ _ _ _ _ _=>rfl
theorem rp.grown {W:List Nat} {st:List AS} {w w':World} (hs:SR H φ st w) (hg:w.grownBy w' none):rp W φ st w w' :=
 fun i bx hi hl _ b hb=>hg.block b ((hs.box i bx hi).blk_lt hl hb) (by simp)
def D7 (o:Oper) (act:Act) (w w2:World):Prop:=match o.op with
 | .load _ y=>∀ b,DZ (act.eval y)=some b->w2.heap[b]? = w.heap[b]?
 | _=>True
theorem D7.refl (o:Oper) (act:Act) (w:World):D7 o act w w:=by
 unfold D7
 split
 ·exact fun _ _=>rfl
 ·trivial
structure Extra (P:Program) (o:Oper) (ao:GB) (s:St) (act:Act) (φ:CG) (w w':World) (v:Value):Prop where
 mem:rp (ao.touch s) φ s.st w w'
 val:ao.isVal=true->w'=w/\∀ w2,D7 o act w w2->(execOp act.eval o).run P w2=.ok (.value v) w2
def I7 (P:Program) (n:Nat) (o:Oper) (ao:GB) (cal:GM):Prop :=
 ∀ (ρ:Type) (kn:St->Option ρ) (r:ρ) (s:St) (act:Act) (w:World) (H:HP) (φ:CG) (next:Act->World->Prop) (Q:Exit->Act->World->Prop),
  SR H φ s.st w->Gw H φ s.st s.fr act.tmps->act.tmps.size=n->EQ cal kn s ao=some r ->
  (∀ s' v w' H' φ',kn s'=some r->Ae H φ s.st w H' φ' s'.st w'->Gw H' φ' s'.st s'.fr (act.put o.dst v).tmps->Extra P o ao s act φ w w' v->next (act.put o.dst v) w') ->
  o.wp P act w next Q
theorem gU {o:Oper} {act:Act} {w:World} {next:Act->World->Prop} {Q:Exit->Act->World->Prop} {v:Value} {w':World}
  (hrun:(execOp act.eval o).run P w=.ok (.value v) w') (h:next (act.put o.dst v) w'):o.wp P act w next Q:=by
 unfold Oper.wp
 rw [hrun]
 exact h
theorem Vj {act:Act} {dst:Option Tmp} {d:Nat} (hd:dst=some d) (v:Value):(act.put dst v).tmps=act.tmps.setIfInBounds d v:=by
 subst hd; rfl
theorem Ba {o:Oper} {ao:GB} {n d:Nat} {s:St} {act:Act} {a:AV} {v:Value} {next:Act->World->Prop} {Q:Exit->Act->World->Prop} {ρ:Type} {kn:St->Option ρ} {r:ρ}
  (hs:SR H φ s.st w) (hf:Gw H φ s.st s.fr act.tmps) (hn:act.tmps.size=n) (hd:o.dst=some d) (hdn:d<n) (hk:kn (s.put d a)=some r)
  (hrun:∀ w2,D7 o act w w2->(execOp act.eval o).run P w2=.ok (.value v) w2) (hv:VA H φ s.st a v)
  (hnext:∀ s' v w' H' φ',kn s'=some r->Ae H φ s.st w H' φ' s'.st w'->Gw H' φ' s'.st s'.fr (act.put o.dst v).tmps->Extra P o ao s act φ w w' v->next (act.put o.dst v) w'):o.wp P act w next Q :=
 gU (hrun w (D7.refl o act w)) (hnext (s.put d a) v w H φ hk (Ae.refl hs) (by rw [Vj hd]; exact hf.put (by omega) hv) ⟨rp.refl _ _ _ _,fun _=>⟨rfl,hrun⟩⟩)
def KL (o:Oper) (n d:Nat):Bool:=o.dst==some d&&decide (d<n)
theorem Bo {o:Oper} {n d:Nat} (h:KL o n d=true):o.dst=some d/\d<n:=by simpa [KL] using h
def mvB (n:Nat) (o:Oper) (d:Nat) (x:Cv):Bool :=
 KL o n d&&(match o.op with | .move y=>Da y x | .assign y=>Da y x | _=>false)
theorem ACx {n:Nat} {o:Oper} {d:Nat} {x:Cv} {cal:GM} (h:mvB n o d x=true):I7 P n o (.mv d x) cal:=by
 intro ρ kn r s act w H φ next Q hs hf hn hk hnext
 simp only [mvB,AC] at h
 obtain ⟨h1,h2⟩:=h
 obtain ⟨hd,hdn⟩:=Bo h1
 simp only [EQ] at hk
 split at h2
 ·rename_i y ho
  exact Ba hs hf hn hd hdn hk (v:=act.eval y) (fun _ _=>by simp [execOp,ho]) (BX hf h2) hnext
 ·rename_i y ho
  exact Ba hs hf hn hd hdn hk (v:=act.eval y) (fun _ _=>by simp [execOp,ho]) (BX hf h2) hnext
 ·cases h2
def mz (n:Nat) (o:Oper) (d:Nat) (c a b:Cv):Bool :=
 KL o n d&&(match o.op with | .pick c' a' b'=>Da c' c&&Da a' a&&Da b' b | _=>false)
theorem VA.bool {a:AV} {st:List AS} {v:Value} {b:Bool} (h:VA H φ st a v) (e:a=.bool b):v=.bool b:=by subst e; exact h
theorem VA.int {a:AV} {st:List AS} {v:Value} {k:IntKind} {n:Int} (h:VA H φ st a v) (e:a=.int k n):v=.int k n:=by subst e; exact h
theorem VA.str {a:AV} {st:List AS} {v:Value} {b:ByteArray} (h:VA H φ st a v) (e:a=.str b):v=.string b:=by subst e; exact h
theorem AAo {n:Nat} {o:Oper} {d:Nat} {c a b:Cv} {cal:GM} (h:mz n o d c a b=true):I7 P n o (.pick d c a b) cal:=by
 intro ρ kn r s act w H φ next Q hs hf hn hk hnext
 simp only [mz,AC] at h
 obtain ⟨h1,h2⟩:=h
 obtain ⟨hd,hdn⟩:=Bo h1
 split at h2
 ·rename_i c' a' b' ho
  simp only [AC] at h2
  obtain ⟨⟨hc,ha⟩,hb⟩:=h2
  simp only [EQ] at hk
  cases hcv:s.opd c with
  | bool t =>
   rw [hcv] at hk
   simp only at hk
   have hc':=(BX hf hc).bool hcv
   cases t with
   | true=>exact Ba hs hf hn hd hdn (by simpa using hk) (v:=act.eval a') (fun _ _=>by simp [execOp,ho,hc',asBool]) (BX hf ha) hnext
   | false=>exact Ba hs hf hn hd hdn (by simpa using hk) (v:=act.eval b') (fun _ _=>by simp [execOp,ho,hc',asBool]) (BX hf hb) hnext
  | _=>rw [hcv] at hk; cases hk
 ·cases h2
end Go.Proofs.YtfcgblnlopemkaaGreatDoor.Core

namespace Go.Proofs.YtfcgblnlopemkaaGreatDoor.Core
open Go
variable {P:Program}
theorem Kb {H H':HP} {φ φ':CG} {w w':World} {o:Oper} {ao:GB} {n d:Nat} {s s1:St} {act:Act} {a:AV} {v:Value} {next:Act->World->Prop} {Q:Exit->Act->World->Prop} {ρ:Type} {kn:St->Option ρ} {r:ρ}
  (hst:Ae H φ s.st w H' φ' s1.st w') (hf:Gw H' φ' s1.st s1.fr act.tmps) (hn:act.tmps.size=n) (hd:o.dst=some d) (hdn:d<n) (hk:kn (s1.put d a)=some r)
  (hrun:(execOp act.eval o).run P w=.ok (.value v) w') (hv:VA H' φ' s1.st a v)
  (hnext:∀ s' v w' H' φ',kn s'=some r->Ae H φ s.st w H' φ' s'.st w'->Gw H' φ' s'.st s'.fr (act.put o.dst v).tmps->Extra P o ao s act φ w w' v->next (act.put o.dst v) w')
  (hmem:rp (ao.touch s) φ s.st w w') (hnv:ao.isVal=false):o.wp P act w next Q :=
 gU hrun (hnext (s1.put d a) v w' H' φ' hk hst (by rw [Vj hd]; exact hf.put (by omega) hv) ⟨hmem,fun h=>by rw [hnv] at h; cases h⟩)
theorem kF (st:List AS) (cs:List AV):Ak (st++[.var cs]) st.length=true:=by simp [Ak]
def tf (n:Nat) (o:Oper) (d:Nat):Bool :=
 KL o n d&&(match o.op with | .move y=>Da y (.c .nil) | .assign y=>Da y (.c .nil) | _=>false)
theorem yD {n:Nat} {o:Oper} {d:Nat} {t:TypeId} {K:Kd} {cal:GM} (h:tf n o d=true):I7 P n o (.nilrow d t K) cal:=by
 intro ρ kn r s act w H φ next Q hs hf hn hk hnext
 simp only [tf,AC] at h
 obtain ⟨h1,h2⟩:=h
 obtain ⟨hd,hdn⟩:=Bo h1
 have key:∀ y:Operand,(execOp act.eval o)=pure (.value (act.eval y))->Da y (.c .nil)=true->o.wp P act w next Q:=by
  intro y hy hb
  have hv:act.eval y=.slice none 0 0:=BX (s:=s) hf hb
  have hst:Ae H φ s.st w H (fun i=>if i=s.st.length then .slice none 0 0 else φ i) (s.st++[.rows t K []]) w :=
   Ae.push hs ⟨rfl,rfl,rfl,Nat.le_refl _,fun _ _ _=>rfl⟩ ⟨[],⟨by simp,.inl ⟨rfl,rfl⟩⟩,fun j x hx=>by simp at hx⟩ (fun _ b hb=>by simp [DZ] at hb) (fun cs e=>by cases e)
  refine Kb (s:=s) (s1:=⟨s.fr,s.st++[.rows t K []]⟩) (a:=.row s.st.length) hst (hf.mono (HP.le_refl H) (E4 φ s.st _ _)) hn hd hdn hk (by rw [hy,hv]; rfl) ?_ hnext (rp.refl _ _ _ _) rfl
  exact ⟨by simp,by simp [AN]⟩
 split at h2
 ·rename_i y ho; exact key y (by simp [execOp,ho]) h2
 ·rename_i y ho; exact key y (by simp [execOp,ho]) h2
 ·cases h2
def cQ:List Value->List AV->Bool
 | [],[]=>true
 | v::vs,a::aw=>kD v a&&cQ vs aw
 | _,_=>false
theorem pL {H:HP}:∀ {vs:List Value} {aw:List AV},cQ vs aw=true->I8 H aw vs
 | [],[],_=>rfl
 | v::vs,a::aw,h=>by
  simp only [cQ,AC] at h
  exact ⟨v,vs,rfl,cO h.1,pL h.2⟩
 | [],_::_,h=>by simp [cQ] at h
 | _::_,[],h=>by simp [cQ] at h
def zF (P:Program) (t:TypeId) (cs:List AV):Bool :=
 match (P.info? t).bind (·.zero) with
 | some z=>cQ z.cells.toList cs
 | none=>false
def zcB (T:TypeId):Value->AV->Bool
 | .pointer none,.self t=>t==T
 | .slice none 0 0,.new _ _ xs=>xs.isEmpty
 | v,a=>kD v a
theorem AB3 {T:TypeId} {H:HP} {v:Value} {a:AV} (h:zcB T v a=true):ZC T H a v:=by
 unfold zcB at h
 split at h
 ·rename_i t
  exact .inr (.inr ⟨by rw [eq_of_beq h],rfl⟩)
 ·rename_i t K xs
  left
  refine ⟨t,K,?_,rfl⟩
  have:xs=[]:=by simpa using h
  rw [this]
 ·exact .inr (.inl (cO h))
def yE (T:TypeId):List Value->List AV->Bool
 | [],[]=>true
 | v::vs,a::aw=>zcB T v a&&yE T vs aw
 | _,_=>false
theorem xG {T:TypeId} {H:HP}:∀ {vs:List Value} {aw:List AV},yE T vs aw=true->Aq (ZC T H) aw vs
 | [],[],_=>rfl
 | v::vs,a::aw,h=>by
  simp only [yE,AC] at h
  exact ⟨v,vs,rfl,AB3 h.1,xG h.2⟩
 | [],_::_,h=>by simp [yE] at h
 | _::_,[],h=>by simp [yE] at h
def xH (P:Program) (t:TypeId) (cs:List AV):Bool :=
 match (P.info? t).bind (·.zero) with
 | some z=>yE t z.cells.toList cs
 | none=>false
theorem gV {t:TypeId} {cs:List AV} (h:xH P t cs=true):∃ i z,P.info? t=some i/\i.zero=some z/\∀ H,Aq (ZC t H) cs z.cells.toList:=by
 unfold xH at h
 cases hi:P.info? t with
 | none=>rw [hi] at h; cases h
 | some i =>
  rw [hi] at h
  simp only [Z] at h
  cases hz:i.zero with
  | none=>rw [hz] at h; cases h
  | some z=>rw [hz] at h; exact ⟨i,z,rfl,hz,fun H=>xG h⟩
theorem zG {t:TypeId} {cs:List AV} (h:zF P t cs=true):∃ i z,P.info? t=some i/\i.zero=some z/\∀ H,I8 H cs z.cells.toList:=by
 unfold zF at h
 cases hi:P.info? t with
 | none=>rw [hi] at h; cases h
 | some i =>
  rw [hi] at h
  simp only [Z] at h
  cases hz:i.zero with
  | none=>rw [hz] at h; cases h
  | some z=>rw [hz] at h; exact ⟨i,z,rfl,hz,fun H=>pL h⟩
def pM (P:Program) (n:Nat) (o:Oper) (d:Nat) (cs:List AV):Bool :=
 KL o n d&&(match o.op with | .alloc t=>xH P t cs | _=>false)
theorem zH {n:Nat} {o:Oper} {d:Nat} {cs:List AV} {cal:GM} (h:pM P n o d cs=true):I7 P n o (.alloc d cs) cal:=by
 intro ρ kn r s act w H φ next Q hs hf hn hk hnext
 simp only [pM,AC] at h
 obtain ⟨h1,h2⟩:=h
 obtain ⟨hd,hdn⟩:=Bo h1
 split at h2
 ·rename_i t ho
  obtain ⟨i,z,hi,hz,hv⟩:=gV h2
  obtain ⟨φ1,g1,k1,told,len⟩:=Vi (hv H) hs
  obtain ⟨hrun,hst⟩:=my (P:=P) (t:=t) g1.sr told
  rw [len] at hst
  simp only [EQ] at hk
  refine Kb (s:=s) (s1:=⟨s.fr,s.st++Aw cs++[.var (BQ s.st.length cs)]⟩) (a:=.ptr (s.st.length+AO cs) 0) (v:=.pointer (some ⟨w.heap.size,0,none⟩)) (g1.trans hst)
   ((hf.mono (HP.le_refl H) k1).mono (HP.le_refl H) (by have:=E4 φ1 (s.st++Aw cs) (.pointer (some ⟨w.heap.size,0,none⟩)) (.var (BQ s.st.length cs)); rwa [len] at this)) hn hd hdn hk ?_ ?_ hnext (rp.grown hs (World.grownBy_alloc w _ none)) rfl
  ·simp [execOp,ho,Instr.alloc,zeroValue,typeInfo,hi,hz,hrun]
  ·refine ⟨?_,w.heap.size,by simp,rfl⟩
   rw [<- len]; exact kF _ _
 ·cases h2
def AB4 (n:Nat) (o:Oper) (d:Nat) (x:Cv):Bool :=
 KL o n d&&(match o.op with | .box _ y=>Da y x | _=>false)
theorem wM {H:HP} {φ:CG} {w:World} {s s':St} {own:Bool} {a:AV} {aw:List AV} {v:Value} (hs:SR H φ s.st w) (hv:VA H φ s.st a v) (h:s.stash own a.cells=some (aw,s')) :
  ∃ H',Ae H φ s.st w H' φ s'.st w/\By φ s.st φ s'.st none/\Aq (Zy H' φ s'.st) aw v.cells.toList/\s'.fr=s.fr:=by
 unfold St.stash at h
 split at h
 ·split at h
  ·rename_i hg
   cases h
   refine ⟨H,Ae.refl hs,By.refl _ _ _,?_,rfl⟩
   have told:∀ b∈a.cells,∀ u,VC H φ s.st b u->Zy H φ s.st b u:=fun b hb u hu=>by
    have:=Bf.1 hg b hb
    cases b with
    | row i=>exact ⟨fun _ _=>trivial,fun j e=>by cases e; exact ⟨hu.2,hu.1⟩⟩
    | _=>exact Zy.of_VF (hu.solid this)
   rcases hv.cases with ⟨cs,arr,rfl,rfl,hc⟩ | ⟨vs,arr,rfl,_,_⟩ | hc
   ·exact hc.impM told
   ·simp [AV.cells,AV.good,AV.solid] at hg
   ·have hcell:a.cells=[a]:=by cases a<;>first | rfl | exact hc.elim
    rw [hcell] at hg told ⊢
    have hga:a.good=true:=by simpa using hg
    rw [(pJ hs hga hc).2]
    exact ⟨v,[],rfl,told a (by simp) v hc,rfl⟩
  ·cases h
 ·obtain ⟨H1,g1,k1,f1,e1,_⟩:=L7 hs hv h
  exact ⟨H1,g1,k1,(Hi.1 f1).imp fun _ _ h=>Zy.of_VF h,e1⟩
theorem AB5 {n:Nat} {o:Oper} {d:Nat} {x:Cv} {own:Bool} {cal:GM} (h:AB4 n o d x=true):I7 P n o (.box d x own) cal:=by
 intro ρ kn r s act w H φ next Q hs hf hn hk hnext
 simp only [AB4,AC] at h
 obtain ⟨h1,h2⟩:=h
 obtain ⟨hd,hdn⟩:=Bo h1
 split at h2
 ·rename_i t y ho
  simp only [EQ] at hk
  cases hq:s.stash own (s.opd x).cells with
  | none=>rw [hq] at hk; cases hk
  | some z =>
   obtain ⟨aw,s1⟩:=z
   rw [hq] at hk
   simp only [Z] at hk
   obtain ⟨H1,g1,k1,f1,e1⟩:=wM hs (BX hf h2) hq
   obtain ⟨hrun,hst⟩:=my (P:=P) (t:=t) g1.sr (f1.imp fun _ _ h=>h.toT)
   refine Kb (s:=s) (s1:=⟨s1.fr,s1.st++[.var aw]⟩) (a:=.ptr s1.st.length 0) (v:=.pointer (some ⟨w.heap.size,0,none⟩)) (g1.trans hst)
    ?_ hn hd hdn hk ?_ ?_ hnext (rp.grown hs (World.grownBy_alloc w _ none)) rfl
   ·rw [e1]; exact (hf.mono g1.le k1).mono (HP.le_refl _) (E4 φ s1.st _ _)
   ·simp [execOp,ho,Instr.box,hrun]
   ·exact ⟨kF _ _,w.heap.size,by simp,rfl⟩
 ·cases h2
def pN (P:Program) (n:Nat) (o:Oper) (d:Nat) (x:Cv) (m:Option Nat):Bool :=
 KL o n d&&(match o.op with | .load t y=>Da y x&&(match m with | some k=>xF P t k&&Zx P t true | none=>Zx P t false) | _=>false)
theorem VA.behind {H:HP} {φ:CG} {s:St} {a:AV} {v:Value} {y:List AV×Nat} (h:VA H φ s.st a v) (hb:s.behind a=some y):VC H φ s.st a v:=by
 rcases h.cases with ⟨cs,arr,rfl,_⟩ | ⟨vs,arr,rfl,_⟩ | h
 ·cases hb
 ·cases hb
 ·exact h
theorem AAp {n:Nat} {o:Oper} {d:Nat} {x:Cv} {m:Option Nat} {cal:GM} (h:pN P n o d x m=true):I7 P n o (.load d x m) cal:=by
 intro ρ kn r s act w H φ next Q hs hf hn hk hnext
 simp only [pN,AC] at h
 obtain ⟨h1,h2⟩:=h
 obtain ⟨hd,hdn⟩:=Bo h1
 split at h2
 ·rename_i t y ho
  simp only [AC] at h2
  obtain ⟨h2,h3⟩:=h2
  simp only [EQ] at hk
  cases hq:s.behind (s.opd x) with
  | none=>rw [hq] at hk; cases hk
  | some z =>
   rw [hq] at hk
   simp only [Z] at hk
   split at hk
   ·rename_i hle
    obtain ⟨u,hrun,hu⟩:=ta (P:=P) (t:=t) hs ((BX hf h2).behind hq) (cs:=z.1) (off:=z.2) hq (n:=m) hle (by cases m<;>exact h3)
    refine Ba hs hf hn hd hdn hk (fun w2 hr=>?_) hu hnext
    simp only [D7,ho] at hr
    simp [execOp,ho,hrun w2 hr]
   ·cases hk
 ·cases h2
def wN (P:Program) (o:Oper) (x y:Cv) (m:Nat):Bool :=
 match o.op with | .store t x' y'=>Da x' x&&Da y' y&&xF P t m&&o.dst.isNone | _=>false
theorem VA.storeAt {H:HP} {φ:CG} {s s' s1:St} {own:Bool} {a:AV} {v:Value} {aw:List AV} (h:VA H φ s.st a v) (hb:s'.storeAt own a aw=some s1):VC H φ s.st a v:=by
 rcases h.cases with ⟨cs,arr,rfl,_⟩ | ⟨vs,arr,rfl,_⟩ | h
 ·cases hb
 ·cases hb
 ·exact h
theorem gW:∀ {aw:List AV} {s:St} {x:List AV×St},s.keepAll aw=some x->∀ a∈aw,a.good=true
 | [],_,_,_,a,ha=>by cases ha
 | b::aw,s,x,h,a,ha=>by
  simp only [St.keepAll] at h
  cases hk:s.keep b with
  | none=>rw [hk] at h; cases h
  | some y =>
   rw [hk] at h
   simp only [Z] at h
   cases hq:y.2.keepAll aw with
   | none=>rw [hq] at h; cases h
   | some z =>
    rcases BI.1 ha with rfl | ha
    ·exact so hk
    ·exact gW hq a ha
theorem th {s s':St} {own:Bool} {p:AV} {vs:List AV} (h:s.storeAt own p vs=some s'):∀ v∈vs,v.good=true:=by
 unfold St.storeAt at h
 split at h
 ·split at h
  ·split at h
   ·rename_i cs _ _
    cases hq:s.intoAll own ((cs.drop _).take vs.length) vs with
    | none=>rw [hq] at h; cases h
    | some y=>exact (Xa hq).2.2
   ·cases h
  ·cases h
 ·cases hq:s.keepAll vs with
  | none=>rw [hq] at h; cases h
  | some z=>exact gW hq
 ·cases h
theorem VA.goodCells {H:HP} {φ:CG} {st:List AS} {w:World} {a:AV} {v:Value} (hs:SR H φ st w) (h:VA H φ st a v) (hg:∀ b∈a.cells,b.good=true):Aq (VC H φ st) a.cells v.cells.toList:=by
 rcases h.cases with ⟨cs,arr,rfl,rfl,hc⟩ | ⟨vs,arr,rfl,_,_⟩ | hc
 ·exact hc
 ·have:=hg (.tup vs) (by simp [AV.cells]); simp [AV.good,AV.solid] at this
 ·have hcell:a.cells=[a]:=by cases a<;>first | rfl | exact hc.elim
  rw [hcell] at hg ⊢
  rw [(pJ hs (hg a (by simp)) hc).2]
  exact ⟨v,[],rfl,hc,rfl⟩
theorem zI {n:Nat} {o:Oper} {x y:Cv} {m:Nat} {own:Bool} {cal:GM} (h:wN P o x y m=true):I7 P n o (.store x y m own) cal:=by
 intro ρ kn r s act w H φ next Q hs hf hn hk hnext
 unfold wN at h
 split at h
 ·rename_i t x' y' ho
  simp only [AC,Option.isNone_iff_eq_none] at h
  obtain ⟨⟨⟨hx,hy⟩,hsz⟩,hd⟩:=h
  simp only [EQ] at hk
  split at hk
  ·rename_i hm
   cases hz:s.storeAt own (s.opd x) (s.opd y).cells with
   | none=>rw [hz] at hk; cases hk
   | some s2 =>
    rw [hz] at hk
    simp only [Z] at hk
    have hp:=(BX hf hx).storeAt hz
    obtain ⟨H1,φ',w',hrun,hst,hf2,hmem⟩:=td (P:=P) (t:=t) hs hf hp ((BX hf hy).goodCells hs (th hz)) hz (by rw [hm]; exact hsz)
    unfold Oper.wp
    simp only [execOp,ho,Sem.run_bind,hrun,Result.andThen_ok,Sem.run_pure,Oper.upon_skip]
    refine hnext s2 undef w' H1 φ' hk hst ?_ ⟨?_,fun h=>by cases h⟩
    ·rw [hd]
     exact hf2
    ·intro i bx hi hl hn b hb
     refine hmem i bx hi hl (fun id hid=>?_) b hb
     intro e
     subst e
     apply hn
     simp only [GB.touch]
     rcases hid with ⟨off,e⟩ | ⟨j,off,e⟩<;>rw [e]<;>simp
  ·cases hk
 ·cases h
def xI (n:Nat) (o:Oper) (d:Nat) (x:Cv):Bool :=
 KL o n d&&(match o.op with | .nilCheck y=>Da y x | _=>false)
theorem AAq {n:Nat} {o:Oper} {d:Nat} {x:Cv} {cal:GM} (h:xI n o d x=true):I7 P n o (.nilc d x) cal:=by
 intro ρ kn r s act w H φ next Q hs hf hn hk hnext
 simp only [xI,AC] at h
 obtain ⟨h1,h2⟩:=h
 obtain ⟨hd,hdn⟩:=Bo h1
 split at h2
 ·rename_i y ho
  have hv:=BX hf h2
  simp only [EQ] at hk
  have key:∀ a,s.opd x=a->kn (s.put d a)=some r->(∃ p,act.eval y=.pointer (some p))->o.wp P act w next Q:=by
   rintro a e hk' ⟨p,hp⟩
   rw [e] at hv
   exact Ba hs hf hn hd hdn hk' (v:=act.eval y) (fun _ _=>by simp [execOp,ho,hp]) hv hnext
  cases hx:s.opd x with
  | ptr id off =>
   rw [hx] at hk hv
   obtain ⟨_,b,_,e⟩:=hv
   exact key _ hx hk ⟨_,e⟩
  | eptr id i off =>
   rw [hx] at hk hv
   obtain ⟨b,_,_,_,_,_,_,e⟩:=hv
   exact key _ hx hk ⟨_,e⟩
  | fptr cs off =>
   rw [hx] at hk hv
   obtain ⟨b,_,_,_,_,e,_⟩:=hv
   exact key _ hx hk ⟨_,e⟩
  | _=>rw [hx] at hk; cases hk
 ·cases h2
def xJ (P:Program) (t:TypeId) (f off:Nat):Option TypeId :=
 match P.underlying t with
 | some (.struct fs)=>match fs[f]? with
  | some fd=>if fd.offset=off then some fd.type else none
  | none=>none
 | _=>none
theorem u7 {t:TypeId} {f off:Nat} {ft:TypeId} (h:xJ P t f off=some ft):∃ fs fd,P.underlying t=some (.struct fs)/\fs[f]? = some fd/\fd.offset=off/\fd.type=ft:=by
 unfold xJ at h
 split at h
 ·rename_i fs hu
  split at h
  ·rename_i fd hf
   split at h
   ·rename_i he
    simp only [BG] at h
    exact ⟨fs,fd,hu,hf,he,h⟩
   ·cases h
  ·cases h
 ·cases h
theorem Addr.add_none (b o k:Nat):(⟨b,o,none⟩:Addr).add k=⟨b,o+k,none⟩:=by unfold Addr.add; split<;>simp_all
def AAr (P:Program) (n:Nat) (o:Oper) (d:Nat) (x:Cv) (off:Nat):Bool :=
 KL o n d&&(match o.op with
  | .fieldAddr t y f=>Da y x&&(match xJ P t f off with | some ft=>(match P.info? ft with | some i=>decide (i.size≠0) | none=>false) | none=>false)
  | _=>false)
theorem AB6 {n:Nat} {o:Oper} {d:Nat} {x:Cv} {off:Nat} {cal:GM} (h:AAr P n o d x off=true):I7 P n o (.fld d x off) cal:=by
 intro ρ kn r s act w H φ next Q hs hf hn hk hnext
 simp only [AAr,AC] at h
 obtain ⟨h1,h2⟩:=h
 obtain ⟨hd,hdn⟩:=Bo h1
 split at h2
 ·rename_i t y f ho
  simp only [AC] at h2
  obtain ⟨h2,h3⟩:=h2
  split at h3
  ·rename_i ft hft
   obtain ⟨fs,fd,hu,hfd,he,hty⟩:=u7 hft
   split at h3
   ·rename_i i hi
    simp only [ne_eq,decide_not,EL,decide_eq_false_iff_not] at h3
    have hv:=BX hf h2
    have hrun:∀ b o0,act.eval y=.pointer (some ⟨b,o0,none⟩)->∀ w2,D7 o act w w2->(execOp act.eval o).run P w2=.ok (.value (.pointer (some ⟨b,o0+off,none⟩))) w2:=by
     intro b o0 hp w _
     simp [execOp,ho,Instr.fieldAt,run_underlying hu,hfd,hp,Instr.sureAddr,fieldPlace,sizeOf,typeInfo,hty,hi,h3,he,Addr.add_none]
    simp only [EQ] at hk
    cases hx:s.opd x with
    | ptr id o0 =>
     rw [hx] at hk hv
     obtain ⟨hva,b,e1,e2⟩:=hv
     exact Ba hs hf hn hd hdn hk (hrun _ _ e2) ⟨hva,b,e1,rfl⟩ hnext
    | eptr id i o0 =>
     rw [hx] at hk hv
     obtain ⟨b,m,cap,K,e1,e2,e3,e4⟩:=hv
     exact Ba hs hf hn hd hdn hk (hrun _ _ e4) ⟨b,m,cap,K,e1,e2,e3,by rw [Nat.add_assoc]⟩ hnext
    | fptr cs o0 =>
     rw [hx] at hk hv
     obtain ⟨b,q,c,el,fz,e1,e2⟩:=hv
     exact Ba hs hf hn hd hdn hk (hrun _ _ e1) ⟨b,q,c,el,fz,by rw [Nat.add_assoc],e2⟩ hnext
    | _=>rw [hx] at hk; cases hk
   ·cases h3
  ·cases h3
 ·cases h2

theorem pO {t:TypeId} {w:World} (h:Zx P t true=true):(isAgg t).run P w=.ok true w:=by
 obtain ⟨d,hu,hd⟩:=kA h
 unfold isAgg
 rw [Sem.run_bind,run_underlying hu w]
 cases d<;>simp_all [TypeDesc.isRow]
theorem nO {t:TypeId} {w:World} (h:Zx P t false=true):(isAgg t).run P w=.ok false w:=by
 obtain ⟨d,hu,hd⟩:=pI h
 unfold isAgg
 rw [Sem.run_bind,run_underlying hu w]
 cases d<;>simp_all [TypeDesc.isRow]
theorem Hj {t:TypeId} {w:World} {cs:Array Value} {off:Nat} {v:Value} (h:Zx P t false=true) (hv:cs[off]? = some v):(Go.part t cs off).run P w=.ok v w:=by
 simp [Go.part,nO h,hv]
theorem gX {t:TypeId} {w:World} {cs:Array Value} {off k:Nat} (h:Zx P t true=true) (hk:xF P t k=true):(Go.part t cs off).run P w=.ok (.agg (cs.extract off (off+k))) w:=by
 have hs:=Rd hk
 cases hi:P.info? t with
 | none=>simp [hi] at hs
 | some i =>
  have hs:i.size=k:=by simpa [hi] using hs
  simp [Go.part,pO h,sizeOf,typeInfo,hi,hs]
def gY (P:Program) (t:TypeId):Option Nat->Bool
 | some k=>xF P t k&&Zx P t true
 | none=>Zx P t false
theorem u_ {R:AV->Value->Prop} {t:TypeId} {m:Option Nat} {aw:List AV} {cs:Array Value} {off:Nat} (hm:gY P t m=true) (h:Aq R aw cs.toList) (hl:off+m.getD 1<=aw.length) :
  ∃ v,(∀ w,(Go.part t cs off).run P w=.ok v w) /\
   (match m with | some k=>∃ arr,v=.agg arr/\Aq R ((aw.drop off).take k) arr.toList | none=>R ((aw.drop off).headD .undef) v):=by
 cases m with
 | some k =>
  simp only [gY,AC] at hm
  refine ⟨_,fun _=>gX hm.2 hm.1,_,rfl,?_⟩
  have:=(h.drop off).take k
  simpa [List.extract] using this
 | none =>
  simp only [Option.getD_none] at hl
  obtain ⟨v,hv,hr⟩:=h.get off aw[off] (by simp)
  refine ⟨v,fun _=>Hj hm (by simpa using hv),?_⟩
  have e:(aw.drop off).headD .undef=aw[off]:=by
   rw [List.drop_eq_getElem_cons (by omega)]
   rfl
  simp only [e]
  exact hr
def ti (P:Program) (n:Nat) (o:Oper) (d:Nat) (x:Cv) (off:Nat) (m:Option Nat):Bool :=
 KL o n d&&(match o.op with
  | .field t y f=>Da y x&&(match xJ P t f off with | some ft=>gY P ft m | none=>false)
  | _=>false)
theorem zJ {n:Nat} {o:Oper} {d:Nat} {x:Cv} {off:Nat} {m:Option Nat} {cal:GM} (h:ti P n o d x off m=true):I7 P n o (.field d x off m) cal:=by
 intro ρ kn r s act w H φ next Q hs hf hn hk hnext
 simp only [ti,AC] at h
 obtain ⟨h1,h2⟩:=h
 obtain ⟨hd,hdn⟩:=Bo h1
 split at h2
 ·rename_i t y f ho
  simp only [AC] at h2
  obtain ⟨h2,h3⟩:=h2
  split at h3
  ·rename_i ft hft
   obtain ⟨fs,fd,hu,hfd,he,hty⟩:=u7 hft
   have hv:=BX hf h2
   simp only [EQ] at hk
   cases hx:s.opd x with
   | agg cs =>
    rw [hx] at hk hv
    simp only at hk
    obtain ⟨arr,ev,hv⟩:=hv
    split at hk
    ·rename_i hl
     obtain ⟨v,hrun,hr⟩:=u_ h3 hv hl
     refine Ba hs hf hn hd hdn hk (v:=v) ?_ ?_ hnext
     ·intro w2 _
      simp [execOp,ho,Instr.field,run_underlying hu,hfd,ev,asAgg,hty,he,hrun]
     ·cases m with
      | some k=>exact hr
      | none=>exact VA.of_VC hr
    ·cases hk
   | _=>rw [hx] at hk; cases hk
  ·cases h3
 ·cases h2
def AAs (P:Program) (n:Nat) (o:Oper) (d:Nat) (k:IntKind) (x:Cv):Bool :=
 KL o n d&&(match o.op with
  | .convert src dst y=>Da y x&&(P.underlying src).isSome&&(match P.underlying dst with | some (.int k')=>decide (k'=k) | _=>false)
  | _=>false)
theorem AB7 {n:Nat} {o:Oper} {d:Nat} {k:IntKind} {x:Cv} {cal:GM} (h:AAs P n o d k x=true):I7 P n o (.cvi d k x) cal:=by
 intro ρ kn r s act w H φ next Q hs hf hn hk hnext
 simp only [AAs,AC] at h
 obtain ⟨h1,h2⟩:=h
 obtain ⟨hd,hdn⟩:=Bo h1
 split at h2
 ·rename_i src dst y ho
  simp only [AC] at h2
  obtain ⟨⟨h2,h3⟩,h4⟩:=h2
  split at h4
  ·rename_i k' hk'
   simp only [decide_eq_true_eq] at h4
   subst h4
   obtain ⟨ds,hds⟩:=Option.isSome_iff_exists.1 h3
   have hv:=BX hf h2
   simp only [EQ] at hk
   cases hx:s.opd x with
   | int k0 m =>
    rw [hx] at hk hv
    have hv:act.eval y=.int k0 m:=hv
    refine Ba hs hf hn hd hdn hk (v:=.int k' (k'.wrap m)) ?_ rfl hnext
    intro w2 _
    simp [execOp,ho,hv,convert,run_underlying hds,run_underlying hk',Conv.intToInt]
   | _=>rw [hx] at hk; cases hk
  ·cases h4
 ·cases h2
def unB (n:Nat) (o:Oper) (d:Nat) (u:UnOp) (x:Cv):Bool :=
 KL o n d&&(match o.op with | .unOp u' _ y=>Da y x&&(match u,u' with | .not,.not=>true | .neg,.neg=>true | _,_=>false) | _=>false)
theorem ACy {n:Nat} {o:Oper} {d:Nat} {u:UnOp} {x:Cv} {cal:GM} (h:unB n o d u x=true):I7 P n o (.un d u x) cal:=by
 intro ρ kn r s act w H φ next Q hs hf hn hk hnext
 simp only [unB,AC] at h
 obtain ⟨h1,h2⟩:=h
 obtain ⟨hd,hdn⟩:=Bo h1
 split at h2
 ·rename_i u' t y ho
  simp only [AC] at h2
  obtain ⟨h2,h3⟩:=h2
  have hv:=BX hf h2
  simp only [EQ] at hk
  split at h3
  ·cases hx:s.opd x with
   | bool b =>
    rw [hx] at hk hv
    simp only [xy] at hk
    have hv:act.eval y=.bool b:=hv
    exact Ba hs hf hn hd hdn hk (v:=.bool (!b)) (fun _ _=>by simp [execOp,ho,hv,Op.unary]) rfl hnext
   | _=>rw [hx] at hk; cases hk
  ·cases hx:s.opd x with
   | int k m =>
    rw [hx] at hk hv
    simp only [xy] at hk
    have hv:act.eval y=.int k m:=hv
    exact Ba hs hf hn hd hdn hk (v:=.int k (k.wrap (0-m))) (fun _ _=>by simp [execOp,ho,hv,Op.unary,Op.intArith]) rfl hnext
   | _=>rw [hx] at hk; cases hk
  ·cases h3
 ·cases h2
def AAt (n:Nat) (o:Oper) (d:Nat) (x:Cv) (i:Nat):Bool :=
 KL o n d&&(match o.op with | .extract y i'=>Da y x&&i'==i | _=>false)
theorem AB8 {n:Nat} {o:Oper} {d:Nat} {x:Cv} {i:Nat} {cal:GM} (h:AAt n o d x i=true):I7 P n o (.ext d x i) cal:=by
 intro ρ kn r s act w H φ next Q hs hf hn hk hnext
 simp only [AAt,AC] at h
 obtain ⟨h1,h2⟩:=h
 obtain ⟨hd,hdn⟩:=Bo h1
 split at h2
 ·rename_i y i' ho
  simp only [AC,beq_iff_eq] at h2
  obtain ⟨h2,rfl⟩:=h2
  have hv:=BX hf h2
  simp only [EQ] at hk
  cases hx:s.opd x with
  | tup vs =>
   rw [hx] at hk hv
   simp only at hk
   obtain ⟨arr,ev,hv⟩:=hv
   split at hk
   ·rename_i hi
    obtain ⟨v,hv1,hv2⟩:=hv.get i' vs[i'] (by simp)
    have hv1:arr[i']? = some v:=by simpa using hv1
    have e:vs.getD i' .undef=vs[i']:=by simp [List.getD,hi]
    rw [e] at hk
    exact Ba hs hf hn hd hdn hk (v:=v) (fun _ _=>by simp [execOp,ho,ev,Instr.extract,hv1]) (VA.of_VB hv2) hnext
   ·cases hk
  | _=>rw [hx] at hk; cases hk
 ·cases h2
def fnB (n:Nat) (o:Oper) (d:Nat) (f:Nat) (caps:List Cv):Bool :=
 KL o n d&&caps.isEmpty&&(match o.op with | .makeFunc (.func f') first captured=>f'==f&&first.isEmpty&&captured.isEmpty | _=>false)
theorem ACz {n:Nat} {o:Oper} {d f:Nat} {caps:List Cv} {cal:GM} (h:fnB n o d f caps=true):I7 P n o (.fn d f caps) cal:=by
 intro ρ kn r s act w H φ next Q hs hf hn hk hnext
 simp only [fnB,AC,List.isEmpty_iff] at h
 obtain ⟨⟨h1,rfl⟩,h2⟩:=h
 obtain ⟨hd,hdn⟩:=Bo h1
 split at h2
 ·rename_i f' first captured ho
  simp only [AC,beq_iff_eq,Array.isEmpty_iff] at h2
  obtain ⟨⟨rfl,rfl⟩,rfl⟩:=h2
  exact Ba hs hf hn hd hdn hk (v:=.func (.func f') #[] #[]) (fun _ _=>by simp [execOp,ho,Instr.makeFunc]) ⟨rfl,rfl⟩ hnext
 ·cases h2

def AAu (n:Nat) (o:Oper) (d:Nat) (b:BinOp) (x y:Cv):Bool :=
 KL o n d&&(match o.op with | .binOp b' _ x' y' _=>Da x' x&&Da y' y&&decide (b'=b) | _=>false)
theorem yF {act:Act} {w:World} {o:Oper} {b:BinOp} {t yt:TypeId} {x y:Operand} {v:Value} (ho:o.op=.binOp b t x y yt)
  (hg:eqGuard b t x y (act.eval x) (act.eval y)=pure ()) (h:(binOp b t (act.eval x) (act.eval y)).run P w=.ok v w):(execOp act.eval o).run P w=.ok (.value v) w:=by
 simp [execOp,ho,hg,h]
theorem zK {ρ:Type} {b:BinOp} {x y:AV} {kn:AV->Option ρ} {r:ρ} (h:mr b x y kn=some r) {vx vy:Value} {H:HP} {φ:CG} {st:List AS} (hx:VA H φ st x vx) (hy:VA H φ st y vy) (t:TypeId) :
  ∃ a v,kn a=some r/\VF H a v/\(∀ w,(binOp b t vx vy).run P w=.ok v w)/\∀ ox oy,eqGuard b t ox oy vx vy=pure ():=by
 unfold mr at h
 split at h
 ·rename_i k a k' c
  have hx:vx=.int k a:=hx
  have hy:vy=.int k' c:=hy
  subst hx hy
  have hg:∀ ox oy,eqGuard b t ox oy (.int k a) (.int k' c)=pure ():=fun ox oy=>eqGuard_at_int ..
  split at h
  ·split at h
   ·cases h
   ·rename_i h0
    exact ⟨_,.int k (k.wrap (a*2^(min c.toNat k.bits))),h,rfl,by simp [binOp,Op.shift,h0],hg⟩
  ·split at h
   ·cases h
   ·rename_i h0
    exact ⟨_,.int k (a.fdiv (2^(min c.toNat k.bits))),h,rfl,by simp [binOp,Op.shift,h0],hg⟩
  ·split at h
   ·rename_i n1 n2 hk
    subst hk
    split at h
    ·exact ⟨_,.int k (k.wrap (a+c)),h,rfl,by simp [binOp,Op.intArith],hg⟩
    ·exact ⟨_,.int k (k.wrap (a-c)),h,rfl,by simp [binOp,Op.intArith],hg⟩
    ·exact ⟨_,.int k (k.wrap (a*c)),h,rfl,by simp [binOp,Op.intArith],hg⟩
    ·split at h
     ·cases h
     ·rename_i h0
      exact ⟨_,.int k (k.wrap (a.tdiv c)),h,rfl,by simp [binOp,Op.intDiv,h0],hg⟩
    ·split at h
     ·cases h
     ·rename_i h0
      exact ⟨_,.int k (a.tmod c),h,rfl,by simp [binOp,Op.intDiv,h0],hg⟩
    ·exact ⟨_,.int k (tT k a c),h,rfl,by simp [binOp,Op.intBits,tT],hg⟩
    ·exact ⟨_,.int k (wK k a c),h,rfl,by simp [binOp,Op.intBits,wK],hg⟩
    ·exact ⟨_,.int k (tU k a c),h,rfl,by simp [binOp,Op.intBits,tU],hg⟩
    ·exact ⟨_,.bool (a==c),h,rfl,by simp [binOp,Op.intCmp],hg⟩
    ·exact ⟨_,.bool (a != c),h,rfl,by simp [binOp,Op.intCmp],hg⟩
    ·exact ⟨_,.bool (a<c),h,rfl,by simp [binOp,Op.intCmp],hg⟩
    ·exact ⟨_,.bool (a<=c),h,rfl,by simp [binOp,Op.intCmp],hg⟩
    ·exact ⟨_,.bool (a>c),h,rfl,by simp [binOp,Op.intCmp],hg⟩
    ·exact ⟨_,.bool (a>=c),h,rfl,by simp [binOp,Op.intCmp],hg⟩
    ·cases h
   ·cases h
 ·rename_i a c
  have hx:vx=.string a:=hx
  have hy:vy=.string c:=hy
  subst hx hy
  have hg:∀ ox oy,eqGuard b t ox oy (.string a) (.string c)=pure ():=fun ox oy=>eqGuard_at_string ..
  split at h
  ·split at h
   ·rename_i hle
    refine ⟨_,.string (a++c),h,rfl,?_,hg⟩
    have hmax:IntKind.i64.max=9223372036854775807:=by decide
    have:¬ (((a.size+c.size:Nat):Int)>IntKind.i64.max):=by rw [hmax]; omega
    simp [binOp,Op.stringOp,hmax]
    omega
   ·cases h
  ·exact ⟨_,.bool (a.toList==c.toList),h,rfl,by simp [binOp,Op.stringOp],hg⟩
  ·exact ⟨_,.bool (!(a.toList==c.toList)),h,rfl,by simp [binOp,Op.stringOp],hg⟩
  ·exact ⟨_,.bool (Op.bytesLess a.toList c.toList),h,rfl,by simp [binOp,Op.stringOp],hg⟩
  ·exact ⟨_,.bool (Op.bytesLess a.toList c.toList||a.toList==c.toList),h,rfl,by simp [binOp,Op.stringOp],hg⟩
  ·exact ⟨_,.bool (!(Op.bytesLess a.toList c.toList||a.toList==c.toList)),h,rfl,by simp [binOp,Op.stringOp],hg⟩
  ·exact ⟨_,.bool (!(Op.bytesLess a.toList c.toList)),h,rfl,by simp [binOp,Op.stringOp],hg⟩
  ·cases h
 ·cases h
theorem AB9 {n:Nat} {o:Oper} {d:Nat} {b:BinOp} {x y:Cv} {cal:GM} (h:AAu n o d b x y=true):I7 P n o (.bin d b x y) cal:=by
 intro ρ kn r s act w H φ next Q hs hf hn hk hnext
 simp only [AAu,AC] at h
 obtain ⟨h1,h2⟩:=h
 obtain ⟨hd,hdn⟩:=Bo h1
 split at h2
 ·rename_i b' t x' y' yt ho
  simp only [AC,decide_eq_true_eq] at h2
  obtain ⟨⟨hx,hy⟩,rfl⟩:=h2
  simp only [EQ] at hk
  obtain ⟨a,v,hk',hv,hrun,hg⟩:=zK (P:=P) hk (BX hf hx) (BX hf hy) t
  exact Ba hs hf hn hd hdn hk' (fun w2 _=>yF ho (hg _ _) (hrun w2)) (VA.of_VF hv) hnext
 ·cases h2
def Z1:Kd->Option Nat
 | .pair a b=>some (Kd.pair a b).sz
 | _=>none
mutual
def yG (P:Program):Nat->TypeId->Kd->Bool
 | 0,_,_=>false
 | D+1,t,K=>match P.underlying t with
  | some (.int _)=>(match K with | .int _=>true | _=>false)
  | some .bool=>(match K with | .bool=>true | _=>false)
  | some .string=>(match K with | .str=>true | _=>false)
  | some (.struct fs)=>!P.stoodInHeld t&&(match K with | .pair a b=>yH P D fs.toList 0 (.pair a b) | _=>false)
  | _=>false
def yH (P:Program):Nat->List Field->Nat->Kd->Bool
 | 0,_,_,_=>false
 | _,[],_,_=>false
 | D+1,f::fs,off,K=>decide (f.name ≠ "_")&&f.offset==off &&
  (if fs.isEmpty then gY P f.type (Z1 K)&&yG P D f.type K
  else match K with
   | .pair a b=>gY P f.type (Z1 a)&&yG P D f.type a&&yH P D fs (off+a.sz) b
   | _=>false)
end
def PA:Kd->Value->Prop
 | .pair _ _,v=>∃ arr,v=.agg arr
 | _,v=>v.cells=#[v]
theorem gZ {H:HP} {K:Kd} {x:K.T} {xs:Array Value} {off:Nat} {t:TypeId} (w:World) (h:GN H K x ((xs.toList.drop off).take K.sz)) (ht:gY P t (Z1 K)=true) :
  ∃ v,(Go.part t xs off).run P w=.ok v w/\GN H K x v.cells.toList/\PA K v:=by
 have one:∀ v,(xs.toList.drop off).take 1=[v]->xs[off]? = some v:=by
  intro v e
  have e1:((xs.toList.drop off).take 1)[0]? = some v:=by rw [e]; rfl
  rw [Bz] at e1
  simpa using e1
 cases K with
 | int k =>
  have hv:=one (.int k x) h
  exact ⟨_,Hj ht hv,rfl,rfl⟩
 | bool =>
  have hv:=one (.bool x) h
  exact ⟨_,Hj ht hv,rfl,rfl⟩
 | str =>
  have hv:=one (.string x) h
  exact ⟨_,Hj ht hv,rfl,rfl⟩
 | slice e =>
  obtain ⟨v,hv,hr⟩:=h
  have hv:=one v hv
  have hc:v.cells=#[v]:=by obtain ⟨a,cap,e1,_⟩:=hr; subst e1; rfl
  exact ⟨v,Hj ht hv,⟨v,by rw [hc],hr⟩,hc⟩
 | pair a b =>
  simp only [Z1,gY,AC] at ht
  refine ⟨_,gX ht.2 ht.1,?_,⟨_,rfl⟩⟩
  simpa [Value.cells,List.extract] using h
 | own t e=>exact h.elim
 | ref K=>exact h.elim
 | «fun» f =>
  have hv:=one _ h
  exact ⟨_,Hj ht hv,rfl,rfl⟩
 | clo f K =>
  obtain ⟨v,hv,hr⟩:=h
  have hv:=one v hv
  have hc:v.cells=#[v]:=by obtain ⟨b,o,c,el,fz,e1,_⟩:=hr; subst e1; rfl
  exact ⟨v,Hj ht hv,⟨v,by rw [hc],hr⟩,hc⟩
mutual
theorem tj {H:HP} (w:World):∀ (D d:Nat) (t:TypeId) (K:Kd) (x y:K.T) (v u:Value),yG P D t K=true->D<=d->GN H K x v.cells.toList->GN H K y u.cells.toList->PA K v->PA K u ->
  (Op.equalIn d t v u).run P w=.ok (Zv K x y) w
 | 0,_,_,_,_,_,_,_,h,_,_,_,_,_=>by simp [yG] at h
 | D+1,0,_,_,_,_,_,_,_,h,_,_,_,_=>by omega
 | D+1,d+1,t,K,x,y,v,u,h,hd,hx,hy,fx,fy=>by
  unfold yG at h
  split at h
  ·rename_i k hu
   cases K<;>first | cases h | skip
   rename_i k'
   simp only [PA] at fx fy
   simp only [fx,fy,GN] at hx hy
   simp only [List.cons.injEq,and_true] at hx hy
   subst hx hy
   exact run_equalIn_int w d t k' k x y hu
  ·rename_i hu
   cases K<;>first | cases h | skip
   simp only [PA] at fx fy
   simp only [fx,fy,GN] at hx hy
   simp only [List.cons.injEq,and_true] at hx hy
   subst hx hy
   exact run_equalIn_bool w d t x y hu
  ·rename_i hu
   cases K<;>first | cases h | skip
   simp only [PA] at fx fy
   simp only [fx,fy,GN] at hx hy
   simp only [List.cons.injEq,and_true] at hx hy
   subst hx hy
   exact run_equalIn_string w d t x y hu
  ·rename_i fs hu
   simp only [AC,EL] at h
   obtain ⟨h0,h⟩:=h
   cases K with
   | pair a b =>
    obtain ⟨xs,rfl⟩:=fx
    obtain ⟨ys,rfl⟩:=fy
    have hfo:P.fieldsOf t=fs:=by simp [Program.fieldsOf,hu]
    rw [run_equalIn_struct w d t xs ys (by rw [hfo]; exact hu) h0,hfo]
    refine xK (H:=H) w D d fs.toList 0 (.pair a b) x y xs ys h (by omega) ?_ ?_
    ·have:=hx.length
     simp only [Value.cells] at hx this
     simp only [List.drop_zero]
     rw [List.take_of_length_le (by omega)]
     exact hx
    ·have:=hy.length
     simp only [Value.cells] at hy this
     simp only [List.drop_zero]
     rw [List.take_of_length_le (by omega)]
     exact hy
   | _=>cases h
  ·cases h
theorem xK {H:HP} (w:World):∀ (D d:Nat) (fs:List Field) (off:Nat) (K:Kd) (x y:K.T) (xs ys:Array Value),yH P D fs off K=true->D<=d ->
  GN H K x ((xs.toList.drop off).take K.sz)->GN H K y ((ys.toList.drop off).take K.sz)->(Op.eqFields d xs ys fs).run P w=.ok (Zv K x y) w
 | 0,_,_,_,_,_,_,_,_,h,_,_,_=>by simp [yH] at h
 | D+1,_,[],_,_,_,_,_,_,h,_,_,_=>by simp [yH] at h
 | D+1,d,f::fs,off,K,x,y,xs,ys,h,hd,hx,hy=>by
  unfold yH at h
  simp only [AC,decide_eq_true_eq,beq_iff_eq] at h
  obtain ⟨⟨hnm,hoff⟩,h⟩:=h
  subst hoff
  split at h
  ·rename_i he
   have he:fs=[]:=by simpa using he
   subst he
   simp only [AC] at h
   obtain ⟨v,r1,r2,r3⟩:=gZ w hx h.1
   obtain ⟨u,s1,s2,s3⟩:=gZ w hy h.1
   have hq:=tj w D d f.type K x y v u h.2 (by omega) r2 s2 r3 s3
   simp only [Op.eqFields,if_pos hnm,Sem.run_bind,r1,s1,hq,Result.andThen_ok]
   cases Zv K x y<;>simp
  ·cases K with
   | pair a b =>
    simp only [AC] at h
    obtain ⟨⟨h1,h2⟩,h3⟩:=h
    have cut:∀ {z:(Kd.pair a b).T} {zs:Array Value},GN H (.pair a b) z ((zs.toList.drop f.offset).take (Kd.pair a b).sz) ->
      GN H a z.1 ((zs.toList.drop f.offset).take a.sz)/\GN H b z.2 ((zs.toList.drop (f.offset+a.sz)).take b.sz):=by
     intro z zs hz
     obtain ⟨c1,c2,e,g1,g2⟩:=hz
     have l1:=g1.length
     have l2:=g2.length
     have e1:(zs.toList.drop f.offset).take a.sz=c1:=by
      have h1:=congrArg (List.take a.sz) e
      rw [List.take_take,show min a.sz (Kd.pair a b).sz=a.sz by simp [Kd.sz]] at h1
      rw [h1,<- l1]
      simp
     have e2:(zs.toList.drop (f.offset+a.sz)).take b.sz=c2:=by
      have h1:=congrArg (List.drop a.sz) e
      rw [List.drop_take,List.drop_drop,show (Kd.pair a b).sz-a.sz=b.sz by simp [Kd.sz]] at h1
      rw [h1,<- l1]
      simp
     exact ⟨by rw [e1]; exact g1,by rw [e2]; exact g2⟩
    obtain ⟨hx1,hx2⟩:=cut hx
    obtain ⟨hy1,hy2⟩:=cut hy
    obtain ⟨v,r1,r2,r3⟩:=gZ w hx1 h1
    obtain ⟨u,s1,s2,s3⟩:=gZ w hy1 h1
    have hq:=tj w D d f.type a x.1 y.1 v u h2 (by omega) r2 s2 r3 s3
    simp only [Op.eqFields,if_pos hnm,Sem.run_bind,r1,s1,hq,Result.andThen_ok,Zv]
    cases Zv a x.1 y.1 with
    | false=>simp
    | true =>
     simp only [Bool.not_true,Bool.false_eq_true,if_false,Bool.true_and]
     exact xK w D d fs _ b x.2 y.2 xs ys h3 (by omega) hx2 hy2
   | _=>cases h
end
def AV.closed (a:AV):Bool:=a.solid||a.isNew
theorem VC.closed {H:HP} {φ:CG} {st:List AS} {a:AV} {v:Value} (hs:a.closed=true) (h:VC H φ st a v):VF H a v:=by
 cases a<;>first | exact h | cases hs
theorem VCs.closed {H:HP} {φ:CG} {st:List AS} {aw:List AV} {vs:List Value} (hs:aw.all AV.closed=true) (h:Aq (VC H φ st) aw vs):I8 H aw vs :=
 Hi.2 (h.impM fun a ha _ g=>VC.closed (Bf.1 hs a ha) g)
theorem yI:∀ (K:Kd) {aw:List AV} {x:K.T} {r:List AV},K.dec aw=some (x,r)->∃ c,aw=c++r/\c.all AV.closed=true:=by
 intro K
 induction K with
 | int k =>
  intro aw x r hd
  cases aw with
  | nil=>simp [Kd.dec] at hd
  | cons a aw =>
   cases a<;>simp [Kd.dec] at hd
   obtain ⟨rfl,rfl,rfl⟩:=hd
   exact ⟨[_],rfl,rfl⟩
 | bool =>
  intro aw x r hd
  cases aw with
  | nil=>simp [Kd.dec] at hd
  | cons a aw =>
   cases a<;>simp [Kd.dec] at hd
   obtain ⟨rfl,rfl⟩:=hd
   exact ⟨[_],rfl,rfl⟩
 | str =>
  intro aw x r hd
  cases aw with
  | nil=>simp [Kd.dec] at hd
  | cons a aw =>
   cases a<;>simp [Kd.dec] at hd
   obtain ⟨rfl,rfl⟩:=hd
   exact ⟨[_],rfl,rfl⟩
 | slice e ih =>
  intro aw x r hd
  cases aw with
  | nil=>simp [Kd.dec] at hd
  | cons a aw =>
   cases a with
   | nil =>
    simp only [Kd.dec,BG,Prod.mk.injEq] at hd
    obtain ⟨rfl,rfl⟩:=hd
    exact ⟨[_],rfl,rfl⟩
   | lst K xs =>
    simp only [Kd.dec] at hd
    split at hd
    ·rename_i hk
     subst hk
     simp only [BG,Prod.mk.injEq] at hd
     obtain ⟨rfl,rfl⟩:=hd
     exact ⟨[_],rfl,rfl⟩
    ·cases hd
   | _=>simp [Kd.dec] at hd
 | pair a b iha ihb =>
  intro aw x r hd
  simp only [Kd.dec] at hd
  cases hx:a.dec aw with
  | none=>simp [hx] at hd
  | some xa =>
   obtain ⟨xa,ra⟩:=xa
   simp only [hx,Z] at hd
   cases hy:b.dec ra with
   | none=>simp [hy] at hd
   | some yb =>
    obtain ⟨yb,rb⟩:=yb
    simp only [hy,Z,BG,Prod.mk.injEq] at hd
    obtain ⟨rfl,rfl⟩:=hd
    obtain ⟨c1,e1,h1⟩:=iha hx
    obtain ⟨c2,e2,h2⟩:=ihb hy
    exact ⟨c1++c2,by rw [e1,e2,Be],by simp only [List.all_append,h1,h2,Bool.and_self]⟩
 | own t e ih =>
  intro aw x r hd
  cases aw with
  | nil=>simp [Kd.dec] at hd
  | cons a aw =>
   cases a with
   | new t' e' xs =>
    simp only [Kd.dec] at hd
    split at hd
    ·split at hd
     ·rename_i hk
      subst hk
      cases hd
      exact ⟨[_],rfl,rfl⟩
     ·cases hd
    ·cases hd
   | _=>simp [Kd.dec] at hd
 | ref K ih =>
  intro aw x r hd
  cases aw with
  | nil=>simp [Kd.dec] at hd
  | cons a aw =>
   cases a with
   | ref cs =>
    simp only [Kd.dec] at hd
    cases h1:K.dec cs with
    | none=>rw [h1] at hd; cases hd
    | some p =>
     rw [h1] at hd
     simp only [Z] at hd
     split at hd
     ·cases hd
      exact ⟨[_],rfl,rfl⟩
     ·cases hd
   | _=>simp [Kd.dec] at hd
 | «fun» f =>
  intro aw x r hd
  cases aw with
  | nil=>simp [Kd.dec] at hd
  | cons a aw =>
   cases a with
   | fn f' caps =>
    cases caps with
    | nil =>
     simp only [Kd.dec] at hd
     split at hd
     ·cases hd
      exact ⟨[_],rfl,rfl⟩
     ·cases hd
    | cons _ _=>simp [Kd.dec] at hd
   | _=>simp [Kd.dec] at hd
 | clo f K ih =>
  intro aw x r hd
  cases aw with
  | nil=>simp [Kd.dec] at hd
  | cons a aw =>
   cases a with
   | clo f' K' y =>
    simp only [Kd.dec] at hd
    split at hd
    ·split at hd
     ·rename_i hk
      subst hk
      cases hd
      exact ⟨[_],rfl,rfl⟩
     ·cases hd
    ·cases hd
   | _=>simp [Kd.dec] at hd
theorem GO {K:Kd} {cs:List AV} {x:K.T} (h:K.ofCells cs=some x):K.dec cs=some (x,[]):=by
 unfold Kd.ofCells at h
 cases hd:K.dec cs with
 | none=>rw [hd] at h; cases h
 | some y =>
  obtain ⟨y,r⟩:=y
  rw [hd] at h
  simp only [Z] at h
  cases r with
  | nil=>simpa using h
  | cons _ _=>cases h
theorem zL {K:Kd} {a:AV} {x:K.T} (h:K.of a=some x):K.dec a.cells=some (x,[])/\AV.fits K a=true:=by
 unfold Kd.of at h
 split at h
 ·rename_i hf
  exact ⟨GO h,hf⟩
 ·cases h
theorem Vk {H:HP} {φ:CG} {st:List AS} {a:AV} {v:Value} (h:VC H φ st a v):a.cells=[a]:=by
 cases a<;>first | rfl | exact h.elim
theorem GN.vcells {H:HP} {K:Kd} {x:K.T} {v:Value} (h:GN H K x [v]):v.cells=#[v]:=by
 cases K with
 | int k=>cases h; rfl
 | bool=>cases h; rfl
 | str=>cases h; rfl
 | slice e=>obtain ⟨u,e1,a,cap,e2,_⟩:=h; cases e1; subst e2; rfl
 | own t e=>exact h.elim
 | ref K=>exact h.elim
 | «fun» f=>cases h; rfl
 | clo f K=>obtain ⟨u,e1,b,o,c,el,fz,e2,_⟩:=h; cases e1; subst e2; rfl
 | pair a b=>have:=h.length; have h1:=Kd.sz_pos a; have h2:=Kd.sz_pos b; simp [Kd.sz] at this; omega
theorem of_rep {H:HP} {K:Kd} {a:AV} {v:Value} {x:K.T} {φ:CG} {st:List AS} (hv:VA H φ st a v) (h:K.of a=some x) :
  GN H K x v.cells.toList/\PA K v:=by
 obtain ⟨hd,hf⟩:=zL h
 obtain ⟨c,e,hs⟩:=yI K hd
 rw [List.append_nil] at e
 rcases hv.cases with ⟨cs,arr,rfl,rfl,hc⟩ | ⟨vs,arr,rfl,_,_⟩ | hc
 ·simp only [AV.cells] at hd e
  subst e
  obtain ⟨c1,c2,e1,e2,e3⟩:=Hh K (VCs.closed hs hc) hd
  cases e3
  simp only [List.append_nil] at e1
  refine ⟨by simp only [Value.cells]; rw [e1]; exact e2,?_⟩
  cases K with
  | pair a b=>exact ⟨_,rfl⟩
  | _=>cases hf
 ·simp only [AV.cells] at e
  subst e
  cases hs
 ·rw [Vk hc] at hd e
  subst e
  have hs:a.closed=true:=by simpa using hs
  obtain ⟨c1,c2,e1,e2,e3⟩:=Hh K (aw:=[a]) (vs:=[v]) ⟨v,[],rfl,VC.closed hs hc,rfl⟩ hd
  cases e3
  rw [List.append_nil] at e1
  subst e1
  have hcell:=e2.vcells
  refine ⟨by rw [hcell]; exact e2,?_⟩
  cases K with
  | pair _ _ =>
   cases a<;>first | cases hf | skip
   all_goals cases hs
  | _=>exact hcell
def AAv (P:Program) (n:Nat) (o:Oper) (d:Nat) (neg:Bool) (K:Kd) (x y:Cv):Bool :=
 KL o n d&&(match o.op with
  | .binOp b t x' y' _=>Da x' x&&Da y' y&&yG P 40 t K&&(match b with | .eql=>!neg | .neq=>neg | _=>false) &&
   (match K with | .bool=>true | .pair _ _=>!P.eqGuardType P.depth t | _=>false)
  | _=>false)
theorem AB_ {n:Nat} {o:Oper} {d:Nat} {neg:Bool} {K:Kd} {x y:Cv} {cal:GM} (h:AAv P n o d neg K x y=true):I7 P n o (.eqs d neg K x y) cal:=by
 intro ρ kn r s act w H φ next Q hs hf hn hk hnext
 simp only [AAv,AC] at h
 obtain ⟨h1,h2⟩:=h
 obtain ⟨hd,hdn⟩:=Bo h1
 split at h2
 ·rename_i b t x' y' yt ho
  simp only [AC] at h2
  obtain ⟨⟨⟨⟨hx,hy⟩,ht⟩,hb⟩,hg⟩:=h2
  simp only [EQ] at hk
  ·cases hxa:K.of (s.opd x) with
   | none=>rw [hxa] at hk; cases hk
   | some xa =>
    cases hya:K.of (s.opd y) with
    | none=>rw [hxa,hya] at hk; cases hk
    | some ya =>
     rw [hxa,hya] at hk
     simp only [Z] at hk
     obtain ⟨rx,fx⟩:=of_rep (BX hf hx) hxa
     obtain ⟨ry,fy⟩:=of_rep (BX hf hy) hya
     have key:∀ w:World,(execOp act.eval o).run P w=.ok (.value (.bool (neg != Zv K xa ya))) w:=by
      intro w
      have hq:=tj (P:=P) w 40 10000 t K xa ya _ _ ht (by omega) rx ry fx fy
      have hguard:(eqGuard b t x' y' (act.eval x') (act.eval y')).run P w=.ok () w:=by
       cases K with
       | bool =>
        simp only [PA] at fx
        have rx:=rx
        simp only [fx,GN,List.cons.injEq,and_true] at rx
        rw [rx,eqGuard_at_bool]
        rfl
       | pair a c =>
        obtain ⟨xs,ex⟩:=fx
        obtain ⟨ys,ey⟩:=fy
        rw [ex,ey]
        exact run_eqGuard_agg w b t x' y' xs ys (by simpa using hg)
       | _=>cases hg
      have hrun:(binOp b t (act.eval x') (act.eval y')).run P w=.ok (.bool (neg != Zv K xa ya)) w:=by
       have hk2:∀ {vx vy:Value},(vx.cells=#[vx]->∃ c,vx=.bool c)->(vy.cells=#[vy]->∃ c,vy=.bool c)->(Op.equalIn 10000 t vx vy).run P w=.ok (Zv K xa ya) w ->
         (binOp b t vx vy).run P w=.ok (.bool (neg != Zv K xa ya)) w:=by
        intro vx vy hvx hvy he
        have cx:(∃ c,vx=.bool c)\/∃ c,vx=.agg c:=by
         cases vx<;>first | exact .inl (hvx rfl) | exact .inr ⟨_,rfl⟩
        have cy:(∃ c,vy=.bool c)\/∃ c,vy=.agg c:=by
         cases vy<;>first | exact .inl (hvy rfl) | exact .inr ⟨_,rfl⟩
        have e1:b=.eql->(binOp b t vx vy).run P w=.ok (.bool (Zv K xa ya)) w:=by
         intro e; subst e
         rcases cx with ⟨c,rfl⟩ | ⟨c,rfl⟩<;>rcases cy with ⟨c',rfl⟩ | ⟨c',rfl⟩<;>simp [binOp,Op.equal,Op.maxDepth,he]
        have e2:b=.neq->(binOp b t vx vy).run P w=.ok (.bool (!Zv K xa ya)) w:=by
         intro e; subst e
         rcases cx with ⟨c,rfl⟩ | ⟨c,rfl⟩<;>rcases cy with ⟨c',rfl⟩ | ⟨c',rfl⟩<;>simp [binOp,Op.equal,Op.maxDepth,he]
        cases b<;>first | cases hb | skip
        ·have:neg=false:=by simpa using hb
         subst this
         rw [e1 rfl]
         simp
        ·rw [e2 rfl]
         simp
       refine hk2 ?_ ?_ hq
       ·intro hc
        cases K with
        | bool=>simp only [hc,GN,List.cons.injEq,and_true] at rx; exact ⟨_,rx⟩
        | pair a c=>obtain ⟨xs,ex⟩:=fx; rw [ex] at hc; exact absurd hc (by
          intro h
          have hsz:=rx.length
          rw [ex] at hsz
          have h2:=congrArg Array.size h
          have p1:=Kd.sz_pos a
          have p2:=Kd.sz_pos c
          simp [Value.cells,Kd.sz] at hsz h2
          omega)
        | _=>cases hg
       ·intro hc
        cases K with
        | bool=>simp only [hc,GN,List.cons.injEq,and_true] at ry; exact ⟨_,ry⟩
        | pair a c=>obtain ⟨xs,ex⟩:=fy; rw [ex] at hc; exact absurd hc (by
          intro h
          have hsz:=ry.length
          rw [ex] at hsz
          have h2:=congrArg Array.size h
          have p1:=Kd.sz_pos a
          have p2:=Kd.sz_pos c
          simp [Value.cells,Kd.sz] at hsz h2
          omega)
        | _=>cases hg
      simp only [execOp,ho,Sem.run_bind,hguard,hrun,Result.andThen_ok,Sem.run_pure]
     exact Ba hs hf hn hd hdn hk (v:=.bool (neg != Zv K xa ya)) (fun w2 _=>key w2) rfl hnext
 ·cases h2

def pP (P:Program) (t:TypeId):Bool:=match P.underlying t with | some .string=>true | _=>false
def cR (P:Program) (t:TypeId):Bool:=match P.underlying t with | some (.slice _)=>true | _=>false
theorem Vl {t:TypeId} (h:pP P t=true):P.underlying t=some .string:=by
 unfold pP at h
 split at h
 ·assumption
 ·cases h
theorem Re {t:TypeId} (h:cR P t=true):P.underlying t=some (.slice (P.elem t)):=by
 unfold cR at h
 split at h
 ·rename_i e hu; simp [Program.elem,hu]
 ·cases h
def AAw (P:Program) (n:Nat) (o:Oper) (d:Nat) (isStr:Bool) (x:Cv):Bool :=
 KL o n d&&(match o.op with
  | .call ⟨.builtin .len,args,tys⟩=>(match args.toList,tys.toList with
   | [y],[t]=>Da y x&&(if isStr then pP P t else cR P t)
   | _,_=>false)
  | _=>false)
theorem gd {act:Act} {w:World} {o:Oper} {y:Operand} {t:TypeId} {v:Value} {args:Array Operand} {tys:Array TypeId} (ho:o.op=.call ⟨.builtin .len,args,tys⟩)
  (ha:args.toList=[y]) (ht:tys.toList=[t]) (h:(Builtin.len_ #[t] o.type #[act.eval y]).run P w=.ok v w):(execOp act.eval o).run P w=.ok (.value v) w:=by
 have ha:args=#[y]:=by rw [<- ha]
 have ht:tys=#[t]:=by rw [<- ht]
 subst ha ht
 simp [execOp,ho,resolve,invoke,builtin,h]
theorem ACA {n:Nat} {o:Oper} {d:Nat} {isStr:Bool} {x:Cv} {cal:GM} (h:AAw P n o d isStr x=true):I7 P n o (.len d isStr x) cal:=by
 intro ρ kn r s act w H φ next Q hs hf hn hk hnext
 simp only [AAw,AC] at h
 obtain ⟨h1,h2⟩:=h
 obtain ⟨hd,hdn⟩:=Bo h1
 split at h2
 ·rename_i args tys ho
  split at h2
  ·rename_i y t ha ht
   simp only [AC] at h2
   obtain ⟨h2,h3⟩:=h2
   have hv:=BX hf h2
   simp only [EQ] at hk
   have slc:isStr=false->∀ (m:Nat) a cap,act.eval y=.slice a m cap->kn (s.put d (.int .i64 m))=some r->o.wp P act w next Q:=by
    intro e m a cap hy hk'
    subst e
    refine Ba hs hf hn hd hdn hk' (v:=goInt m) ?_ rfl hnext
    intro w2 _
    refine gd ho ha ht ?_
    rw [hy]
    exact run_len_slice w2 t _ a m cap (Re (by simpa using h3))
   cases hx:s.opd x with
   | str b =>
    rw [hx] at hk hv
    simp only at hk
    split at hk
    ·rename_i e
     subst e
     have hv:act.eval y=.string b:=hv
     refine Ba hs hf hn hd hdn hk (v:=goInt b.size) ?_ rfl hnext
     intro w2 _
     refine gd ho ha ht ?_
     rw [hv]
     exact run_len_string w2 t _ b (Vl (by simpa using h3))
    ·cases hk
   | nil =>
    rw [hx] at hk hv
    simp only at hk
    split at hk
    ·cases hk
    ·rename_i e
     exact slc (by simpa using e) 0 none 0 hv hk
   | lst K xs =>
    rw [hx] at hk hv
    simp only at hk
    split at hk
    ·cases hk
    ·rename_i e
     obtain ⟨a,cap,ev,_⟩:=hv
     exact slc (by simpa using e) _ _ _ ev hk
   | row id =>
    rw [hx] at hk hv
    simp only at hk
    split at hk
    ·cases hk
    ·rename_i e
     obtain ⟨ev,_⟩:=hv
     cases hb:s.st[id]? with
     | none=>rw [hb] at hk; cases hk
     | some bx =>
      rw [hb] at hk
      have hbox:=hs.box id bx hb
      cases bx with
      | rows t' K xs =>
       obtain ⟨flat,ho',_⟩:=hbox
       rcases ho'.2 with ⟨e1,e2⟩ | ⟨g,cap,cur,e1,_⟩
       ·rw [e1] at ev
        have h0:xs.length=0:=e2
        simp only [h0] at hk
        exact slc (by simpa using e) 0 none 0 ev hk
       ·rw [e1] at ev
        exact slc (by simpa using e) _ _ _ ev hk
      | frz K xs =>
       obtain ⟨⟨a,cap,e1,_⟩,_⟩:=hbox
       rw [e1] at ev
       exact slc (by simpa using e) _ _ _ ev hk
      | mrow t' K xs =>
       obtain ⟨flat,ho',_⟩:=hbox
       rcases ho'.2 with ⟨e1,e2⟩ | ⟨g,cap,cur,e1,_⟩
       ·rw [e1] at ev
        have h0:xs.length=0:=e2
        simp only [h0] at hk
        exact slc (by simpa using e) 0 none 0 ev hk
       ·rw [e1] at ev
        exact slc (by simpa using e) _ _ _ ev hk
      | byt t' xs =>
       obtain ⟨g,cap,e1,_⟩:=tX.flat hbox
       rw [e1] at ev
       exact slc (by simpa using e) _ _ _ ev hk
      | var cs=>cases hk
      | dead=>cases hk
   | _=>rw [hx] at hk; cases hk
  ·cases h2
 ·cases h2
def xL (P:Program) (n:Nat) (o:Oper) (d:Nat) (x i:Cv):Bool :=
 KL o n d&&(match o.op with | .index t x' i'=>Da x' x&&Da i' i&&pP P t | _=>false)
theorem AAx {n:Nat} {o:Oper} {d:Nat} {x i:Cv} {cal:GM} (h:xL P n o d x i=true):I7 P n o (.sidx d x i) cal:=by
 intro ρ kn r s act w H φ next Q hs hf hn hk hnext
 simp only [xL,AC] at h
 obtain ⟨h1,h2⟩:=h
 obtain ⟨hd,hdn⟩:=Bo h1
 split at h2
 ·rename_i t x' i' ho
  simp only [AC] at h2
  obtain ⟨⟨hx,hi⟩,ht⟩:=h2
  have vx:=BX hf hx
  have vi:=BX hf hi
  simp only [EQ] at hk
  split at hk
  ·rename_i b k j hxe hie
   rw [hxe] at vx
   rw [hie] at vi
   have vx:act.eval x'=.string b:=vx
   have vi:act.eval i'=.int k j:=vi
   split at hk
   ·rename_i h0
    split at hk
    ·rename_i h1
     refine Ba hs hf hn hd hdn hk (v:=.int .u8 (b[j.toNat]'(by omega)).toNat) ?_ ?_ hnext
     ·intro w2 _
      simp [execOp,ho,vx,vi,run_index_string w2 t b k j (Vl ht),h0,h1]
     ·show Value.int .u8 _=.int .u8 _
      congr 2
      have e:b.data.toList.getD j.toNat 0=b[j.toNat]'(by omega):=by
       have hlt:j.toNat<b.data.size:=by have:b.size=b.data.size:=rfl; omega
       simp only [List.getD,Array.getElem?_toList,Array.getElem?_eq_getElem hlt,Option.getD_some]
       rfl
      rw [e]
    ·cases hk
   ·cases hk
  ·cases hk
 ·cases h2
def xM (P:Program) (n:Nat) (o:Oper) (d m:Nat) (x i:Cv):Bool :=
 KL o n d&&(match o.op with | .index t x' i'=>Da x' x&&Da i' i&&(match P.underlying t with | some (.array len e)=>len==m&&(match P.info? e with | some ie=>ie.size==1 | none=>false)&&(match P.underlying e with | some (.int _)=>true | _=>false) | _=>false) | _=>false)
theorem xN {H:HP} {φ:CG}:∀ {cs:List AV} {vs:List Value} {xs:List Int} {st:List AS},Aq (VC H φ st) cs vs->(Kd.int .i64).ofs (cs.map fun c=>[c])=some xs->vs=xs.map (.int .i64)
 | [],vs,xs,st,h,e=>by cases h; cases e; rfl
 | c::cs,vs,xs,st,⟨v,r,e1,hc,hr⟩,e=>by
  simp only [List.map_cons,Kd.ofs] at e
  cases hd:(Kd.int .i64).dec [c] with
  | none=>rw [hd] at e; cases e
  | some y =>
   obtain ⟨y,rest⟩:=y
   rw [hd,Z] at e
   cases c with
   | int k n =>
    simp only [Kd.dec] at hd
    split at hd
    ·rename_i hk
     subst hk
     cases hd
     simp only at e
     cases h2:(Kd.int .i64).ofs (cs.map fun c=>[c]) with
     | none=>rw [h2] at e; cases e
     | some ys =>
      rw [h2,Z] at e
      cases e
      have:=xN hr h2
      subst this
      rw [e1]
      have hc:v=.int .i64 _:=hc
      rw [hc]
      rfl
    ·cases hd
   | _=>simp [Kd.dec] at hd
theorem AAy {n:Nat} {o:Oper} {d m:Nat} {x i:Cv} {cal:GM} (h:xM P n o d m x i=true):I7 P n o (.aidx d m x i) cal:=by
 intro ρ kn r s act w H φ next Q hs hf hn hk hnext
 simp only [xM,AC] at h
 obtain ⟨h1,h2⟩:=h
 obtain ⟨hd,hdn⟩:=Bo h1
 split at h2
 ·rename_i t x' i' ho
  simp only [AC] at h2
  obtain ⟨⟨hx,hi⟩,ht⟩:=h2
  split at ht
  ·rename_i len e hu
   simp only [AC,beq_iff_eq] at ht
   obtain ⟨⟨rfl,hie⟩,hue⟩:=ht
   have hagg:∀ w,(isAgg e).run P w=.ok false w:=fun w=>by
    split at hue
    ·rename_i k hk; simp [isAgg,run_underlying hk]
    ·cases hue
   have hsz:∀ w,(sizeOf e).run P w=.ok 1 w:=fun w=>by
    split at hie
    ·rename_i ie hie2; rw [beq_iff_eq] at hie; simp [sizeOf,typeInfo,hie2,hie]
    ·cases hie
   have vx:=BX hf hx
   have vi:=BX hf hi
   simp only [EQ] at hk
   split at hk
   ·rename_i cs k j hxe hie
    rw [hxe] at vx
    rw [hie] at vi
    obtain ⟨arr,ea,hc⟩:=vx
    have vi:act.eval i'=.int k j:=vi
    cases hxs:(Kd.int .i64).ofs (cs.map fun c=>[c]) with
    | none=>rw [hxs] at hk; cases hk
    | some xs =>
     rw [hxs,Z] at hk
     have hl:=xN hc hxs
     split at hk
     ·rename_i hlen
      split at hk
      ·rename_i h0
       split at hk
       ·rename_i h1
        have hlt:j.toNat<xs.length:=by omega
        have harr:arr[j.toNat]? = some (.int .i64 (xs.getD j.toNat 0)):=by
         rw [<- Array.getElem?_toList,hl,CT,List.getElem?_eq_getElem hlt]
         simp [List.getD,List.getElem?_eq_getElem hlt]
        refine Ba hs hf hn hd hdn hk (v:=.int .i64 (xs.getD j.toNat 0)) ?_ rfl hnext
        intro w2 _
        simp [execOp,ho,ea,vi,Instr.index,run_underlying hu,asIntOf,h0,h1,Go.part,hagg,hsz,harr]
       ·cases hk
      ·cases hk
     ·cases hk
   ·cases hk
  ·cases ht
 ·cases h2
def AAz (P:Program) (n:Nat) (o:Oper) (d:Nat) (z:Nat) (x i:Cv):Bool :=
 KL o n d&&(match o.op with | .indexAddr t x' i'=>Da x' x&&Da i' i&&cR P t&&xF P (P.elem t) z | _=>false)
theorem ACB {n:Nat} {o:Oper} {d:Nat} {z:Nat} {x i:Cv} {cal:GM} (h:AAz P n o d z x i=true):I7 P n o (.idx d z x i) cal:=by
 intro ρ kn r s act w H φ next Q hs hf hn hk hnext
 simp only [AAz,AC] at h
 obtain ⟨h1,h2⟩:=h
 obtain ⟨hd,hdn⟩:=Bo h1
 split at h2
 ·rename_i t x' i' ho
  simp only [AC] at h2
  obtain ⟨⟨⟨hx,hi⟩,ht⟩,hz⟩:=h2
  have vx:=BX hf hx
  have vi:=BX hf hi
  have hsize:∀ w,(sizeOf (P.elem t)).run P w=.ok z w:=by
   intro w
   have hs:=Rd hz
   cases hq:P.info? (P.elem t) with
   | none=>simp [hq] at hs
   | some q =>
    have hs:q.size=z:=by simpa [hq] using hs
    simp [sizeOf,typeInfo,hq,hs]
  have run:∀ b off m cap k (j:Int),act.eval x'=.slice (some ⟨b,off,none⟩) m cap->act.eval i'=.int k j->0<=j->j<m->∀ w2,D7 o act w w2 ->
    (execOp act.eval o).run P w2=.ok (.value (.pointer (some ⟨b,off+j.toNat*z,none⟩))) w2:=by
   intro b off m cap k j e1 e2 h0 h1 w _
   simp [execOp,ho,e1,e2,run_indexAt_slice w t _ m cap k j (Re ht),h0,h1,hsize,Addr.add_none]
  simp only [EQ] at hk
  have frozen:∀ (K:Kd) (xs:List K.T) k (j:Int),ZR (GN H K) K.sz H xs (act.eval x')->act.eval i'=.int k j->K.sz=z->0<=j->j<xs.length ->
    ∃ b off cap c el fz,act.eval x'=.slice (some ⟨b,off,none⟩) xs.length cap/\H b=some (.cells c el fz) /\
     ∀ j x,xs[j]? = some x->∃ cs,GN H K x cs/\cs.length=K.sz/\∀ i u,cs[i]? = some u->c[off+j*K.sz+i]? = some u:=by
   intro K xs k j hr hi hzz h0 h1
   obtain ⟨a,cap,ev,_,hr⟩:=hr
   rcases hr with rfl | ⟨b,off,c,el,fz,ea,hb,hc⟩
   ·simp at h1; omega
   ·subst ea
    exact ⟨b,off,cap,c,el,fz,ev,hb,hc⟩
  split at hk
  ·rename_i K xs k j hxe hie
   rw [hxe] at vx
   rw [hie] at vi
   have vi:act.eval i'=.int k j:=vi
   split at hk
   ·rename_i hzz
    split at hk
    ·rename_i h0
     split at hk
     ·rename_i h1
      obtain ⟨b,off,cap,c,el,fz,e1,e2,e3⟩:=frozen K xs k j vx vi hzz h0 h1
      refine Ba hs hf hn hd hdn hk (run _ _ _ _ _ _ e1 vi h0 h1) ?_ hnext
      have hlt:j.toNat<xs.length:=by omega
      obtain ⟨cs,g1,g2,g3⟩:=e3 j.toNat xs[j.toNat] (by simp)
      have eg:xs.getD j.toNat K.zero=xs[j.toNat]:=by simp [List.getD,hlt]
      rw [eg]
      refine ⟨b,off+j.toNat*z,c,el,fz,by simp,e2,cs,I8.of_rep g1,fun q u hu=>?_⟩
      rw [<- hzz]
      exact g3 q u hu
     ·cases hk
    ·cases hk
   ·cases hk
  ·rename_i id k j hxe hie
   rw [hxe] at vx
   rw [hie] at vi
   have vi:act.eval i'=.int k j:=vi
   obtain ⟨ev,_⟩:=vx
   split at hk
   ·rename_i t' K xs hb
    split at hk
    ·rename_i hzz
     split at hk
     ·rename_i h0
      split at hk
      ·rename_i h1
       obtain ⟨flat,ho',_⟩:=hs.box id _ hb
       rcases ho'.2 with ⟨e1,e2⟩ | ⟨g,cap,cur,e1,_⟩
       ·have:xs.length=0:=e2
        omega
       ·rw [e1] at ev
        refine Ba hs hf hn hd hdn hk (run _ _ _ _ _ _ ev vi h0 h1) ?_ hnext
        exact ⟨g,xs.length,cap,K,by simp only [AN,hb],by omega,e1,by simp [hzz]⟩
      ·cases hk
     ·cases hk
    ·cases hk
   ·rename_i K xs hb
    split at hk
    ·rename_i hzz
     split at hk
     ·rename_i h0
      split at hk
      ·rename_i h1
       obtain ⟨hr,ha⟩:=hs.box id _ hb
       rw [<- ev] at hr ha
       obtain ⟨b,off,cap,c,el,fz,e1,e2,e3⟩:=frozen K xs k j hr vi hzz h0 h1
       obtain ⟨hoff,_⟩:=ha _ _ _ e1
       simp only at hoff
       subst hoff
       refine Ba hs hf hn hd hdn hk (run _ _ _ _ _ _ e1 vi h0 h1) ?_ hnext
       exact ⟨b,xs.length,cap,K,by simp only [AN,hb],by omega,by rw [<- ev]; exact e1,by simp [hzz]⟩
      ·cases hk
     ·cases hk
    ·cases hk
   ·rename_i t' K xs hb
    split at hk
    ·rename_i hzz
     split at hk
     ·rename_i h0
      split at hk
      ·rename_i h1
       obtain ⟨flat,ho',_⟩:=hs.box id _ hb
       rcases ho'.2 with ⟨e1,e2⟩ | ⟨g,cap,cur,e1,_⟩
       ·have:xs.length=0:=e2
        omega
       ·rw [e1] at ev
        refine Ba hs hf hn hd hdn hk (run _ _ _ _ _ _ ev vi h0 h1) ?_ hnext
        exact ⟨g,xs.length,cap,K,by simp only [AN,hb],by omega,e1,by simp [hzz]⟩
      ·cases hk
     ·cases hk
    ·cases hk
   ·rename_i t' xs hb
    split at hk
    ·rename_i hzz
     split at hk
     ·rename_i h0
      split at hk
      ·rename_i h1
       obtain ⟨g,cap,e1,_⟩:=tX.flat (hs.box id _ hb)
       rw [e1] at ev
       refine Ba hs hf hn hd hdn hk (run _ _ _ _ _ _ ev vi h0 h1) ?_ hnext
       exact ⟨g,xs.length,cap,.int .u8,by simp only [AN,hb],by omega,e1,by simp [hzz]⟩
      ·cases hk
     ·cases hk
    ·cases hk
   ·cases hk
  ·cases hk
 ·cases h2
theorem pQ {w:World} {isSlice:Bool} {len cap:Nat} {lo hi:Option Value} {l h:Int} (hlo:(lo=none/\l=0)\/∃ k,lo=some (.int k l)) (hhi:(hi=none/\h=len)\/∃ k,hi=some (.int k h))
  (h0:0<=l) (h1:l<=h) (h2:h<=cap):(Instr.sliceBounds isSlice len cap lo hi none).run P w=.ok (l.toNat,h.toNat,cap) w:=by
 have eh:(h.toNat:Int)=h:=Int.toNat_of_nonneg (by omega)
 have hh:0<=h:=by omega
 rcases hlo with ⟨rfl,rfl⟩ | ⟨k,rfl⟩<;>rcases hhi with ⟨rfl,rfl⟩ | ⟨k',rfl⟩
 ·simp [Instr.sliceBounds]
 ·simp [Instr.sliceBounds,run_sliceBound,h2,hh]
 ·simp [Instr.sliceBounds,run_sliceBound,h0,h1]
 ·simp [Instr.sliceBounds,run_sliceBound,h0,h1,h2,hh,eh]
def zM:Option Operand->Option Cv->Bool
 | none,none=>true
 | some x,some y=>Da x y
 | _,_=>false
theorem tl {H:HP} {φ:CG} {s:St} {act:Act} {lo:Option Operand} {lo':Option Cv} {l d0:Int} {k k0:IntKind} (hf:Gw H φ s.st s.fr act.tmps) (h:zM lo lo'=true)
  (hl:(match lo' with | none=>AV.int k0 d0 | some y=>s.opd y)=.int k l):(lo.map act.eval=none/\l=d0)\/∃ k,lo.map act.eval=some (.int k l):=by
 cases lo with
 | none =>
  cases lo' with
  | none=>simp only [AV.int.injEq] at hl; exact .inl ⟨rfl,hl.2.symm⟩
  | some y=>simp [zM] at h
 | some x =>
  cases lo' with
  | none=>simp [zM] at h
  | some y =>
   have hv:=BX hf h
   simp only at hl
   rw [hl] at hv
   have hv:act.eval x=.int k l:=hv
   exact .inr ⟨k,by simp [hv]⟩
def slB (P:Program) (n:Nat) (o:Oper) (d:Nat) (z:Nat) (x:Cv) (lo hi:Option Cv):Bool :=
 KL o n d&&(match o.op with
  | .slice t x' lo' hi' none=>Da x' x&&zM lo' lo&&zM hi' hi&&(if z=0 then pP P t else cR P t&&xF P (P.elem t) z)
  | _=>false)
theorem AC0 {n:Nat} {o:Oper} {d:Nat} {z:Nat} {x:Cv} {lo hi:Option Cv} {cal:GM} (h:slB P n o d z x lo hi=true):I7 P n o (.sl d z x lo hi) cal:=by
 intro ρ kn r s act w H φ next Q hs hf hn hk hnext
 simp only [slB,AC] at h
 obtain ⟨h1,h2⟩:=h
 obtain ⟨hd,hdn⟩:=Bo h1
 split at h2
 ·rename_i t x' lo' hi' ho
  simp only [AC] at h2
  obtain ⟨⟨⟨hx,hlo⟩,hhi⟩,ht⟩:=h2
  have vx:=BX hf hx
  simp only [EQ] at hk
  split at hk
  ·rename_i b k l hxe hle
   rw [hxe] at vx
   have vx:act.eval x'=.string b:=vx
   split at hk
   ·rename_i hz
    subst hz
    simp only [if_true] at ht
    split at hk
    ·rename_i k2 h hhe
     split at hk
     ·rename_i h0
      split at hk
      ·rename_i h1
       split at hk
       ·rename_i h2
        have hb:=fun w=>pQ (P:=P) (w:=w) (isSlice:=false) (tl hf hlo hle) (tl hf hhi hhe) h0 h1 h2
        refine Ba hs hf hn hd hdn hk (v:=.string (b.extract l.toNat h.toNat)) ?_ rfl hnext
        intro w2 _
        simp [execOp,ho,vx,Instr.sliceAt,Instr.slice,run_underlying (Vl ht),hb]
       ·cases hk
      ·cases hk
     ·cases hk
    ·cases hk
   ·cases hk
  ·rename_i K xs k l hxe hle
   rw [hxe] at vx
   obtain ⟨a,cap,ev,hcap,hr⟩:=(vx:ZR (GN H K) K.sz H xs (act.eval x'))
   split at hk
   ·rename_i hz
    have hz0:z≠0:=by have:=Kd.sz_pos K; omega
    simp only [if_neg hz0,AC] at ht
    have hsize:∀ w,(sizeOf (P.elem t)).run P w=.ok z w:=by
     intro w
     have hs:=Rd ht.2
     cases hq:P.info? (P.elem t) with
     | none=>simp [hq] at hs
     | some q =>
      have hs:q.size=z:=by simpa [hq] using hs
      simp [sizeOf,typeInfo,hq,hs]
    split at hk
    ·rename_i k2 h hhe
     split at hk
     ·rename_i h0
      split at hk
      ·rename_i h1
       split at hk
       ·rename_i h2
        have hb:=fun w=>pQ (P:=P) (w:=w) (isSlice:=true) (cap:=cap) (tl hf hlo hle) (tl hf hhi hhe) h0 h1 (by omega)
        refine Ba hs hf hn hd hdn hk (v:=.slice (if cap=l.toNat then a else a.map (·.add (l.toNat*z))) (h.toNat-l.toNat) (cap-l.toNat)) ?_ ?_ hnext
        ·intro w2 _
         simp [execOp,ho,ev,Instr.sliceAt,Instr.slice,run_underlying (Re ht.1),hb,hsize]
        ·have hlen:((xs.take h.toNat).drop l.toNat).length=h.toNat-l.toNat:=by
          rw [List.length_drop,List.length_take]; omega
         refine ⟨_,_,by rw [hlen],by rw [hlen]; omega,?_⟩
         rcases hr with rfl | ⟨b,off,c,el,fz,ea,hbb,hc⟩
         ·left; simp
         ·by_cases he:cap=l.toNat
          ·left
           rw [<- DV,hlen]
           omega
          ·right
           subst ea
           refine ⟨b,off+l.toNat*z,c,el,fz,by simp [he,Addr.add_none],hbb,fun j y hy=>?_⟩
           rw [C3,Bz] at hy
           split at hy
           ·obtain ⟨cs,g1,g2,g3⟩:=hc _ y hy
            refine ⟨cs,g1,g2,fun i u hu=>?_⟩
            have:=g3 i u hu
            rw [hz,Nat.add_mul,<- Nat.add_assoc] at this
            rw [hz]
            exact this
           ·cases hy
       ·cases hk
      ·cases hk
     ·cases hk
    ·cases hk
   ·cases hk
  ·cases hk
 ·cases h2

theorem d9 {H:HP} {φ:CG} {s:St} {a:AV} {v:Value} {K:Kd} {ρ:Type} {kn:List K.T->Option ρ} {r:ρ} (hv:VA H φ s.st a v) (h:s.list a K kn=some r):VC H φ s.st a v:=by
 rcases hv.cases with ⟨cs,arr,rfl,_⟩ | ⟨vs,arr,rfl,_⟩ | h
 ·cases h
 ·cases h
 ·exact h
def ACC (P:Program) (n:Nat) (o:Oper) (d:Nat) (x:Cv):Bool :=
 KL o n d&&(match o.op with
  | .convert src dst y=>Da y x&&cR P src&&pP P dst&&(match P.underlying (P.elem src) with | some (.int .u8)=>true | _=>false)
  | _=>false)
theorem ACD {n:Nat} {o:Oper} {d:Nat} {x:Cv} {cal:GM} (h:ACC P n o d x=true):I7 P n o (.bts d x) cal:=by
 intro ρ kn r s act w H φ next Q hs hf hn hk hnext
 simp only [ACC,AC] at h
 obtain ⟨h1,h2⟩:=h
 obtain ⟨hd,hdn⟩:=Bo h1
 split at h2
 ·rename_i src dst y ho
  simp only [AC] at h2
  obtain ⟨⟨⟨h2,h3⟩,h4⟩,h5⟩:=h2
  have he:P.underlying (P.elem src)=some (.int .u8):=by
   split at h5
   ·assumption
   ·cases h5
  simp only [EQ] at hk
  have hv:=BX hf h2
  obtain ⟨xs,hk',sl,cap,flat,ev,hl,hr,hc,hnone⟩:=tY hs (d9 hv hk) hk
  have hl1:flat.length=xs.length:=by rw [hl]; exact Nat.mul_one _
  have hflat:flat=xs.map (Value.int .u8):=by
   apply List.ext_getElem?
   intro j
   rcases B6 j xs.length with hj | hj
   ·have:=hr j xs[j] (by simp)
    have e:((flat.drop (j*1)).take 1)=[Value.int .u8 xs[j]]:=this
    rw [Nat.mul_one] at e
    have e2:=congrArg (fun l:List Value=>l[0]?) e
    simp only [Bz,C3] at e2
    simpa [hj] using e2
   ·rw [Dc (by omega),Dc (by simp; omega)]
  have hrun:(convert src dst (act.eval y)).run P w=.ok (.string (Ed xs)) w:=by
   rw [ev]
   cases sl with
   | none =>
    have:=hnone rfl
    subst this
    rw [run_convert_bytes_nil w src _ (Re h3) he _ _ dst (Vl h4)]
    rfl
   | some a =>
    rw [run_convert_bytes_string w src dst _ (some a) xs.length cap (Re h3) he (Vl h4)]
    have hcell:∀ j v,(xs.map (Value.int .u8))[j]? = some v->w.cell? (a.add j)=some v:=by
     rcases hc with h | h | ⟨b,off,h,g⟩
     ·cases h
     ·subst h; intro j v hj; simp at hj
     ·cases h
      intro j v hj
      rw [Addr.add_none]
      exact g j v (by rw [hflat]; exact hj)
    have hload:=run_loadCells_list (P:=P) w a (xs.map (Value.int .u8)) hcell
    simp only [List.length_map] at hload
    rw [run_bytesToString w a xs.length cap xs hload,foldl_push_bytes]
    simp [Ed]
  exact Kb (s1:=s) (Ae.refl hs) hf hn hd hdn hk' (v:=.string (Ed xs)) (by simp [execOp,ho,hrun]) rfl hnext (rp.refl _ _ _ _) rfl
 ·cases h2
theorem vA {H:HP} {K:Kd} {z:Array Value} {n:Nat} (hz:z.size=K.sz) (hr:GN H K K.zero z.toList):Dx H K (List.replicate n K.zero) (madeCells z (n*K.sz)).toList:=by
 intro j x hx
 have hj:j<n:=by
  have:=(Aj.1 hx).1
  simpa using this
 have ex:x=K.zero:=by
  rw [List.getElem?_replicate,if_pos hj] at hx
  exact (Option.some.inj hx).symm
 subst ex
 have hpos:=Kd.sz_pos K
 have e:((madeCells z (n*K.sz)).toList.drop (j*K.sz)).take K.sz=z.toList:=by
  apply List.ext_getElem?
  intro i
  rcases B6 i K.sz with hi | hi
  ·have hlt:j*K.sz+i<n*K.sz:=by
    have:(j+1)*K.sz<=n*K.sz:=CH _ hj
    rw [Nat.succ_mul] at this
    omega
   have hmod:(j*K.sz+i) % K.sz=i:=by rw [Nat.mul_comm,Nat.mul_add_mod,Nat.mod_eq_of_lt hi]
   rw [Bz,if_pos hi,C3]
   simp only [madeCells,Array.toList_map,CT,Array.toList_range,List.getElem?_range hlt,Option.map_some]
   rw [hz,hmod]
   have hiz:i<z.size:=by omega
   simp [hiz,getElem!_pos]
  ·rw [Bz,if_neg (by omega),Dc (by simp; omega)]
 rw [e]
 exact hr
def mkB (P:Program) (n:Nat) (o:Oper) (d:Nat) (e:TypeId) (K:Kd) (m:Cv):Bool :=
 KL o n d&&r4 P e K&&(match o.op with | .makeSlice t l c=>Da l m&&Da c m&&(match P.underlying t with | some (.slice e')=>e'==e | _=>false) | _=>false)
theorem AC1 {n:Nat} {o:Oper} {d:Nat} {e:TypeId} {K:Kd} {m:Cv} {cal:GM} (h:mkB P n o d e K m=true):I7 P n o (.mk d e K m) cal:=by
 intro ρ kn r s act w H φ next Q hs hf hn hk hnext
 simp only [mkB,AC] at h
 obtain ⟨⟨h1,hel⟩,h2⟩:=h
 obtain ⟨hd,hdn⟩:=Bo h1
 split at h2
 ·rename_i t l c ho
  simp only [AC] at h2
  obtain ⟨⟨hl,hc⟩,ht⟩:=h2
  have hu:P.underlying t=some (.slice e):=by
   split at ht
   ·rename_i e' hu
    simp only [beq_iff_eq] at ht
    rw [hu,ht]
   ·cases ht
  obtain ⟨i,z,hi,hz,hsz,hb,hzs,hzr⟩:=Vh hel
  simp only [EQ] at hk
  have vl:=BX hf hl
  have vc:=BX hf hc
  cases hm:s.opd m with
  | int k q =>
   rw [hm] at hk vl vc
   have vl:act.eval l=.int k q:=vl
   have vc:act.eval c=.int k q:=vc
   simp only at hk
   split at hk
   ·rename_i h0
    split at hk
    ·rename_i hq
     have eq:((q.toNat:Nat):Int)=q:=Int.toNat_of_nonneg h0
     have hqn:q.toNat<=68719476736:=by omega
     have hbytes:i.bytes*q.toNat<=281474976710656:=by
      calc i.bytes*q.toNat<=2048*68719476736:=Nat.mul_le_mul hb hqn
       _<=281474976710656:=by decide
     obtain ⟨w',hrun,hown,hgrow⟩:=run_make_full (P:=P) w w.heap.size t e i z K.sz hu hi hz hsz k k q.toNat hbytes (by simp only [maxLen]; omega) (Nat.le_refl _)
     rw [eq] at hrun
     have hst:=Z0 hs hgrow (K:=K) (xs:=List.replicate q.toNat K.zero) (by simpa using hown) (vA hzs (hzr H))
     refine Kb (s:=s) (s1:=⟨s.fr,s.st++[.rows e K (List.replicate q.toNat K.zero)]⟩) (a:=.row s.st.length) (v:=.slice (some ⟨w.heap.size,0,none⟩) q.toNat q.toNat) hst (hf.mono (HP.le_refl H) (E4 φ s.st _ _)) hn hd hdn hk
      (by simp only [execOp,ho,Sem.run_bind,vl,vc,hrun,Result.andThen_ok,Sem.run_pure]) ?_ hnext (rp.grown hs hgrow) rfl
     exact ⟨by simp,by simp [AN]⟩
    ·cases hk
   ·cases hk
  | _=>rw [hm] at hk; cases hk
 ·cases h2
theorem pR {H:HP} {φ:CG} {st:List AS} {w:World} {a:AV} {v:Value} (hs:SR H φ st w) (hc:VC H φ st a v) (hf:a.full=true):v.cells=#[v]:=by
 cases a with
 | row id =>
  obtain ⟨e,hk⟩:=hc
  subst e
  cases hb:st[id]? with
  | none=>simp [AN,hb] at hk
  | some bx =>
   have hbox:=hs.box id bx hb
   cases bx with
   | rows t K xs =>
    obtain ⟨flat,ho,_⟩:=hbox
    rcases ho.2 with ⟨e,_⟩ | ⟨g,cap,cur,e,_⟩<;>rw [e]<;>rfl
   | mrow t K xs =>
    obtain ⟨flat,ho,_⟩:=hbox
    rcases ho.2 with ⟨e,_⟩ | ⟨g,cap,cur,e,_⟩<;>rw [e]<;>rfl
   | frz K xs=>obtain ⟨⟨a,cap,e,_⟩,_⟩:=hbox; rw [e]; rfl
   | byt t xs=>obtain ⟨g,cap,e,_⟩:=tX.flat hbox; rw [e]; rfl
   | var cs=>simp [AN,hb] at hk
   | dead=>simp [AN,hb] at hk
 | ptr id off=>obtain ⟨_,b,_,e⟩:=hc; rw [e]; rfl
 | eptr id i off=>obtain ⟨b,_,_,_,_,_,_,e⟩:=hc; rw [e]; rfl
 | fptr cs off=>obtain ⟨b,_,_,_,_,e,_⟩:=hc; rw [e]; rfl
 | fn f caps=>obtain ⟨_,e⟩:=hc; rw [e]; rfl
 | clo f K x=>obtain ⟨b,o,c,el,fz,e,_⟩:=hc; rw [e]; rfl
 | undef=>cases hf
 | void=>cases hf
 | new t K xs=>exact hc.elim
 | ref cs=>exact hc.elim
 | was id=>cases hf
 | self T=>cases hf
 | agg cs=>exact hc.elim
 | tup vs=>exact hc.elim
 | int k n=>exact VF.cells (H:=H) (a:=.int k n) hc
 | bool b=>exact VF.cells (H:=H) (a:=.bool b) hc
 | str b=>exact VF.cells (H:=H) (a:=.str b) hc
 | nil=>exact VF.cells (H:=H) (a:=.nil) hc
 | lst K xs=>exact VF.cells (H:=H) (a:=.lst K xs) hc
theorem pS {H:HP} {φ:CG} {st:List AS} {w:World} {a:AV} {v:Value} (hs:SR H φ st w) (h:VA H φ st a v) (hf:a.full=true):Aq (VC H φ st) a.cells v.cells.toList:=by
 rcases h.cases with ⟨cs,arr,rfl,rfl,hc⟩ | ⟨vs,arr,rfl,_,_⟩ | hc
 ·exact hc
 ·cases hf
 ·rw [Vk hc,pR hs hc hf]
  exact ⟨v,[],rfl,hc,rfl⟩
theorem Aq.set {α β:Type} {R:α->β->Prop}:∀ {aw:List α} {vs:List β} (n:Nat) {a:α} {v:β},Aq R aw vs->R a v->Aq R (aw.set n a) (vs.set n v)
 | [],vs,n,a,v,h,_=>by cases h; simp [Aq]
 | _::_,_,0,a,v,⟨v0,r,e,_,hr⟩,g=>by subst e; exact ⟨v,r,rfl,g,hr⟩
 | _::_,_,n+1,a,v,⟨v0,r,e,h,hr⟩,g=>by subst e; exact ⟨v0,_,rfl,h,Aq.set n hr g⟩
theorem nP:∀ (aw cs:List AV) (o:Nat),(putCells cs o aw).length=cs.length
 | [],cs,o=>rfl
 | a::aw,cs,o=>by simp [putCells,nP aw]
theorem vB {R:AV->Value->Prop}:∀ {aw:List AV} {vs:List Value} {cs:List AV} {arr:Array Value} (off k:Nat),Aq R cs arr.toList->Aq R aw vs ->
  Aq R (putCells cs (off+k) aw) ((vs.zipIdx k).foldl (fun cs c=>cs.setIfInBounds (off+c.2) c.1) arr).toList
 | [],_,cs,arr,off,k,h,g=>by cases g; simpa [putCells] using h
 | a::aw,_,cs,arr,off,k,h,⟨v,r,e,g,gr⟩=>by
  subst e
  simp only [putCells,List.zipIdx_cons,List.foldl_cons]
  rw [Nat.add_assoc]
  refine vB off (k+1) ?_ gr
  rw [Array.toList_setIfInBounds]
  exact h.set _ g
def Z2 (places:Nat->Option (Nat×Nat)):List (Nat×Operand)->List (Nat×Nat×Cv)->Bool
 | [],[]=>true
 | (i,y)::ps,(off,m,x)::qs=>decide (places i=some (off,m))&&Da y x&&Z2 places ps qs
 | _,_=>false
theorem o6 {H:HP} {φ:CG} {s:St} {w:World} {act:Act} (hs:SR H φ s.st w) (hf:Gw H φ s.st s.fr act.tmps) (places:Nat->Option (Nat×Nat)) :
  ∀ (ps:List (Nat×Operand)) (qs:List (Nat×Nat×Cv)) (cs cs':List AV) (arr:Array Value),Z2 places ps qs=true->Aq (VC H φ s.st) cs arr.toList->s.filled cs qs=some cs' ->
   ∃ arr',Instr.fill places arr (ps.map fun p=>(p.1,act.eval p.2))=some arr'/\Aq (VC H φ s.st) cs' arr'.toList
 | [],[],cs,cs',arr,_,h,e=>by cases e; exact ⟨arr,rfl,h⟩
 | (i,y)::ps,(off,m,x)::qs,cs,cs',arr,hb,h,e=>by
  simp only [Z2,AC,decide_eq_true_eq] at hb
  obtain ⟨⟨hp,hy⟩,hb⟩:=hb
  simp only [St.filled] at e
  split at e
  ·rename_i hc
   obtain ⟨hfull,hlen,hle⟩:=hc
   have hv:=pS hs (BX hf hy) hfull
   have hsz:(act.eval y).cells.size=m:=by have:=hv.length; simpa [hlen] using this
   have hcs:arr.size=cs.length:=by simpa using h.length
   have h2:=vB off 0 h hv
   rw [Nat.add_zero] at h2
   obtain ⟨arr',h3,h4⟩:=o6 hs hf places ps qs (putCells cs off (s.opd x).cells) cs' (((act.eval y).cells.toList.zipIdx 0).foldl (fun cs c=>cs.setIfInBounds (off+c.2) c.1) arr) hb h2 e
   refine ⟨arr',?_,h4⟩
   simp only [List.map_cons,Instr.fill,hp]
   rw [if_neg (by simp [hsz]; omega)]
   rw [<- h3]
   congr 1
   rw [<- Array.foldl_toList,Array.toList_zipIdx]
  ·cases e
 | [],_::_,_,_,_,hb,_,_=>by simp [Z2] at hb
 | _::_,[],_,_,_,hb,_,_=>by simp [Z2] at hb
def tm (P:Program) (n:Nat) (o:Oper) (d:Nat) (zero:List AV) (qs:List (Nat×Nat×Cv)):Bool :=
 KL o n d&&(match o.op with
  | .build t ps=>zF P t zero&&(match P.underlying t with
   | some (.struct fields)=>(match fields.toList.mapM (fun f=>(P.info? f.type).map fun i=>(f.offset,i.size)) with
    | some places=>Z2 (places[·]?) ps.toList qs
    | none=>false)
   | some (.array _ e)=>(match P.info? e with
    | some ie=>Z2 (fun i=>some (i*ie.size,ie.size)) ps.toList qs
    | none=>false)
   | _=>false)
  | _=>false)
theorem zN {n:Nat} {o:Oper} {d:Nat} {zero:List AV} {qs:List (Nat×Nat×Cv)} {cal:GM} (h:tm P n o d zero qs=true):I7 P n o (.build d zero qs) cal:=by
 intro ρ kn r s act w H φ next Q hs hf hn hk hnext
 simp only [tm,AC] at h
 obtain ⟨h1,h2⟩:=h
 obtain ⟨hd,hdn⟩:=Bo h1
 split at h2
 ·rename_i t ps ho
  simp only [AC] at h2
  obtain ⟨hz,h2⟩:=h2
  obtain ⟨i,z,hi,hzz,hzc⟩:=zG hz
  split at h2
  ·rename_i fields hu
   split at h2
   ·rename_i places hpl
    simp only [EQ] at hk
    cases hq:s.filled zero qs with
    | none=>rw [hq] at hk; cases hk
    | some cs =>
     rw [hq] at hk
     simp only [Z] at hk
     obtain ⟨arr,h3,h4⟩:=o6 hs hf (places[·]?) ps.toList qs zero cs z.cells h2 ((Hi.1 (hzc H)).imp fun _ _ h=>VC.of_VF h) hq
     have hb:P.built t (ps.map fun p=>(p.1,act.eval p.2)).toList=some arr:=by
      unfold Program.built
      simp only [hi,hu,hzz,hpl]
      rw [Array.toList_map]
      simpa using h3
     refine Ba hs hf hn hd hdn hk (v:=.agg arr) ?_ ⟨arr,rfl,h4⟩ hnext
     intro w2 _
     simp only [execOp,ho,Sem.run_bind,run_build w2 t _ arr hb,Result.andThen_ok,Sem.run_pure]
   ·cases h2
  ·rename_i len e hu
   split at h2
   ·rename_i ie hie
    simp only [EQ] at hk
    cases hq:s.filled zero qs with
    | none=>rw [hq] at hk; cases hk
    | some cs =>
     rw [hq] at hk
     simp only [Z] at hk
     obtain ⟨arr,h3,h4⟩:=o6 hs hf _ ps.toList qs zero cs z.cells h2 ((Hi.1 (hzc H)).imp fun _ _ h=>VC.of_VF h) hq
     have hb:P.built t (ps.map fun p=>(p.1,act.eval p.2)).toList=some arr:=by
      unfold Program.built
      simp only [hi,hu,hzz,hie]
      rw [Array.toList_map]
      simpa using h3
     refine Ba hs hf hn hd hdn hk (v:=.agg arr) ?_ ⟨arr,rfl,h4⟩ hnext
     intro w2 _
     simp only [execOp,ho,Sem.run_bind,run_build w2 t _ arr hb,Result.andThen_ok,Sem.run_pure]
   ·cases h2
  ·cases h2
 ·cases h2
theorem VC.of_told {T:TypeId} {H:HP} {φ:CG} {st:List AS} {a:AV} {u:Value} (h:u6 T H φ st a u) (hz:∀ i,a≠.was i) (hu:a≠.undef):VC H φ st a u:=by
 obtain ⟨h1,h2⟩:=h
 cases a with
 | row i=>exact ⟨(h2 i rfl).2,(h2 i rfl).1⟩
 | was i=>exact absurd rfl (hz i)
 | undef=>exact absurd rfl hu
 | self T=>trivial
 | _=>first | exact VC.of_VF (h1 .nilIface) | exact (h1 .nilIface).elim
def zO (P:Program) (n:Nat) (o:Oper) (d:Nat) (zero:List AV) (qs:List (Nat×Nat×Cv)):Bool :=
 KL o n d&&(match o.op with
  | .build t ps=>xH P t zero&&(match P.underlying t with
   | some (.struct fields)=>(match fields.toList.mapM (fun f=>(P.info? f.type).map fun i=>(f.offset,i.size)) with
    | some places=>Z2 (places[·]?) ps.toList qs
    | none=>false)
   | _=>false)
  | _=>false)
theorem AA0 {n:Nat} {o:Oper} {d:Nat} {zero:List AV} {qs:List (Nat×Nat×Cv)} {cal:GM} (h:zO P n o d zero qs=true):I7 P n o (.bnew d zero qs) cal:=by
 intro ρ kn r s act w H φ next Q hs hf hn hk hnext
 simp only [zO,AC] at h
 obtain ⟨h1,h2⟩:=h
 obtain ⟨hd,hdn⟩:=Bo h1
 split at h2
 ·rename_i t ps ho
  simp only [AC] at h2
  obtain ⟨hz,h2⟩:=h2
  obtain ⟨i,z,hi,hzz,hzc⟩:=gV hz
  obtain ⟨φ1,g1,k1,told,len⟩:=Vi (hzc H) hs
  split at h2
  ·rename_i fields hu
   split at h2
   ·rename_i places hpl
    simp only [EQ] at hk
    cases hq:s.filled (BQ s.st.length zero) qs with
    | none=>rw [hq] at hk; cases hk
    | some cs =>
     rw [hq] at hk
     simp only [Z] at hk
     have hopd:∀ x,(⟨s.fr,s.st++Aw zero⟩:St).opd x=s.opd x:=fun x=>by cases x<;>rfl
     have hq':∀ (qs:List (Nat×Nat×Cv)) (cs:List AV),(⟨s.fr,s.st++Aw zero⟩:St).filled cs qs=s.filled cs qs:=by
      intro qs
      induction qs with
      | nil=>intro cs; rfl
      | cons q qs ih=>obtain ⟨off,m,x⟩:=q; intro cs; simp only [St.filled,hopd,ih]
     have hf1:Gw H φ1 (s.st++Aw zero) s.fr act.tmps:=hf.mono (HP.le_refl H) k1
     have htold:∀ (k:Nat) (cs:List AV) (vs:List Value),Aq (ZC t H) cs vs->∀ (st:List AS) (φ:CG),Aq (u6 t H φ st) (BQ k cs) vs->Aq (VC H φ st) (BQ k cs) vs:=by
      intro k cs
      induction cs generalizing k with
      | nil=>intro vs h st φ g; exact g
      | cons a cs ih =>
       intro vs h st φ g
       obtain ⟨v,r,rfl,ha,hr⟩:=h
       rcases ha with ⟨t,K,rfl,rfl⟩ | ha | ⟨rfl,rfl⟩
       ·obtain ⟨v,r',e,g1,g2⟩:=g
        cases e
        exact ⟨_,_,rfl,VC.of_told g1 (by simp) (by simp),ih (k+1) _ hr st φ g2⟩
       ·obtain ⟨o1,_,_⟩:=pK (k:=k) (r:=cs) ha
        rw [o1] at g ⊢
        obtain ⟨v,r',e,g1,g2⟩:=g
        cases e
        exact ⟨_,_,rfl,VC.of_VF ha,ih k _ hr st φ g2⟩
       ·obtain ⟨v,r',e,g1,g2⟩:=g
        cases e
        exact ⟨_,_,rfl,trivial,ih k _ hr st φ g2⟩
     obtain ⟨arr,h3,h4⟩:=o6 (s:=⟨s.fr,s.st++Aw zero⟩) g1.sr hf1 (places[·]?) ps.toList qs (BQ s.st.length zero) cs z.cells h2 (htold _ _ _ (hzc H) _ _ told) (by rw [hq']; exact hq)
     have hb:P.built t (ps.map fun p=>(p.1,act.eval p.2)).toList=some arr:=by
      unfold Program.built
      simp only [hi,hu,hzz,hpl]
      rw [Array.toList_map]
      simpa using h3
     refine Kb (s:=s) (s1:=⟨s.fr,s.st++Aw zero⟩) (a:=.agg cs) (v:=.agg arr) g1 hf1 hn hd hdn hk ?_ ⟨arr,rfl,h4⟩ hnext (rp.refl _ _ _ _) rfl
     simp only [execOp,ho,Sem.run_bind,run_build w t _ arr hb,Result.andThen_ok,Sem.run_pure]
   ·cases h2
  ·cases h2
 ·cases h2

theorem II {φ:CG} {w:World}:∀ {aw:List AV} {css:List (List AV)} {s s':St} {H:HP} {vs:List Value},SR H φ s.st w->Aq (VA H φ s.st) aw vs->s.keepAlls aw=some (css,s') ->
  ∃ H',Ae H φ s.st w H' φ s'.st w/\By φ s.st φ s'.st none/\Aq (fun cs v=>I8 H' cs v.cells.toList) css vs/\s'.fr=s.fr/\s'.st.length=s.st.length
 | [],css,s,s',H,vs,hs,hv,h=>by
  cases h
  cases hv
  exact ⟨H,Ae.refl hs,By.refl _ _ _,rfl,rfl,rfl⟩
 | a::aw,css,s,s',H,vs,hs,hv,h=>by
  obtain ⟨v,r,rfl,h1,h2⟩:=hv
  simp only [St.keepAlls] at h
  cases hk:s.keepAll a.cells with
  | none=>rw [hk] at h; cases h
  | some x =>
   obtain ⟨a',s1⟩:=x
   rw [hk] at h
   simp only [Z] at h
   obtain ⟨H1,g1,k1,f1,e1,n1⟩:=L7 hs h1 hk
   cases hq:s1.keepAlls aw with
   | none=>rw [hq] at h; cases h
   | some y =>
    obtain ⟨b',s2⟩:=y
    rw [hq] at h
    cases h
    obtain ⟨H2,g2,k2,f2,e2,n2⟩:=II g1.sr (h2.imp fun _ _ h=>h.mono g1.le k1) hq
    exact ⟨H2,g1.trans g2,k1.trans k2,⟨v,r,rfl,f1.mono g2.le,f2⟩,e2.trans e1,n2.trans n1⟩
theorem wO {H:HP} {K:Kd} {x:K.T} {c:List Value} (h:GN H K x c):Dx H K [x] c:=by
 intro j y hy
 have hj:j=0:=by
  have:=(Aj.1 hy).1
  simpa using this
 subst hj
 simp at hy
 subst hy
 have:=h.length
 rw [Nat.zero_mul,List.drop_zero,List.take_of_length_le (by omega)]
 exact h
theorem kG {H:HP} (K:Kd):∀ {css:List (List AV)} {vs:List Value} {xs:List K.T},Aq (fun cs v=>I8 H cs v.cells.toList) css vs->K.ofs css=some xs ->
  xs.length=vs.length/\Dx H K xs (vs.flatMap fun v=>v.cells.toList)/\(∀ v∈vs,v.cells.size=K.sz)
 | [],vs,xs,h,e=>by
  cases h
  cases e
  exact ⟨rfl,fun j x hx=>by simp at hx,fun v hv=>by cases hv⟩
 | cs::css,vs,xs,h,e=>by
  obtain ⟨v,r,rfl,h1,h2⟩:=h
  simp only [Kd.ofs] at e
  cases hd:K.dec cs with
  | none=>rw [hd] at e; cases e
  | some y =>
   obtain ⟨y,rr⟩:=y
   rw [hd] at e
   simp only [Z] at e
   cases rr with
   | cons _ _=>cases e
   | nil =>
    simp only at e
    cases hq:K.ofs css with
    | none=>rw [hq] at e; cases e
    | some ys =>
     rw [hq] at e
     cases e
     obtain ⟨l1,r1,s1⟩:=kG K h2 hq
     obtain ⟨c1,c2,e1,e2,e3⟩:=Hh K h1 hd
     cases e3
     rw [List.append_nil] at e1
     rw [<- e1] at e2
     have hsz:=e2.length
     refine ⟨by simp [l1],?_,?_⟩
     ·have:=IH (wO e2) (by simpa using hsz) r1
      simpa using this
     ·intro u hu
      cases hu with
      | head=>simpa using hsz
      | tail _ hm=>exact s1 u hm
def yJ:Nat->List (Nat×Operand)->List Cv->Bool
 | _,[],[]=>true
 | i,(j,y)::ps,x::qs=>i==j&&Da y x&&yJ (i+1) ps qs
 | _,_,_=>false
theorem zP {H:HP} {φ:CG} {s:St} {act:Act} (hf:Gw H φ s.st s.fr act.tmps):∀ (i:Nat) (ps:List (Nat×Operand)) (qs:List Cv),yJ i ps qs=true ->
  ∃ vs:List Value,(ps.map fun p=>(p.1,act.eval p.2))=(vs.zipIdx i).map (fun x=>(x.2,x.1))/\Aq (VA H φ s.st) (qs.map s.opd) vs/\vs.length=qs.length
 | _,[],[],_=>⟨[],rfl,rfl,rfl⟩
 | i,(j,y)::ps,x::qs,h=>by
  simp only [yJ,AC,beq_iff_eq] at h
  obtain ⟨⟨rfl,hy⟩,h⟩:=h
  obtain ⟨vs,e1,e2,e3⟩:=zP hf (i+1) ps qs h
  exact ⟨act.eval y::vs,by simp [e1],⟨_,_,rfl,BX hf hy,e2⟩,by simp [e3]⟩
 | _,[],_::_,h=>by simp [yJ] at h
 | _,_::_,[],h=>by simp [yJ] at h
def bsB (P:Program) (n:Nat) (o:Oper) (d:Nat) (K:Kd) (qs:List Cv) (e:TypeId):Bool :=
 KL o n d&&r4 P e K&&decide (qs.length*K.sz<=16777216)&&(match o.op with
  | .buildSlice t len ps=>len==qs.length&&yJ 0 ps.toList qs&&(match P.underlying t with | some (.slice e')=>e'==e | _=>false)
  | _=>false)
def m3:Op->Nat->Value
 | .alloc _,b=>.pointer (some ⟨b,0,none⟩)
 | .buildSlice _ len _,b=>.slice (some ⟨b,0,none⟩) len len
 | _,_=>undef
theorem pT {H:HP} {φ:CG} {s:St} {act:Act} {n:Nat} {o:Oper} {d:Nat} {K:Kd} {qs:List Cv} {e:TypeId} (h:bsB P n o d K qs e=true) (hf:Gw H φ s.st s.fr act.tmps) :
  o.dst=some d/\d<n/\qs.length*K.sz<=16777216/\∃ vs:List Value,Aq (VA H φ s.st) (qs.map s.opd) vs/\vs.length=qs.length/\(∀ b,m3 o.op b=.slice (some ⟨b,0,none⟩) vs.length vs.length) /\
   ((∀ v∈vs,v.cells.size=K.sz)->∀ w:World,(execOp act.eval o).run P w=.ok (.value (.slice (some ⟨w.heap.size,0,none⟩) vs.length vs.length)) (w.alloc (.cells (vs.flatMap fun v=>v.cells.toList).toArray e))):=by
 simp only [bsB,AC,decide_eq_true_eq] at h
 obtain ⟨⟨⟨h1,hel⟩,hsm⟩,h2⟩:=h
 obtain ⟨hd,hdn⟩:=Bo h1
 obtain ⟨i,z,hi,hz,hsz,_,hzs,_⟩:=Vh hel
 split at h2
 ·rename_i t len ps ho
  simp only [AC,beq_iff_eq] at h2
  obtain ⟨⟨hlen,hps⟩,ht⟩:=h2
  have hu:P.underlying t=some (.slice e):=by
   split at ht
   ·rename_i e' hu
    simp only [beq_iff_eq] at ht
    rw [hu,ht]
   ·cases ht
  obtain ⟨vs,e1,e2,e3⟩:=zP (s:=s) hf 0 ps.toList qs hps
  refine ⟨hd,hdn,hsm,vs,e2,e3,fun b=>by rw [ho,e3,<- hlen]; rfl,fun hall w=>?_⟩
  have hparts:(ps.map fun (p:Nat×Operand)=>(p.1,act.eval p.2)).toList=(vs.zipIdx 0).map fun x=>(x.2,x.1):=by rw [Array.toList_map]; exact e1
  have hpos:=Kd.sz_pos K
  have hrun:(Instr.buildSlice t len (ps.map fun p=>(p.1,act.eval p.2))).run P w=.ok (.slice (some ⟨w.heap.size,0,none⟩) vs.length vs.length) (w.alloc (.cells (vs.flatMap fun v=>v.cells.toList).toArray e)):=by
   rw [hlen,<- e3]
   by_cases h0:vs.length=0
   ·have:vs=[]:=DV.1 h0
    subst this
    have hps0:ps.toList=[]:=by simpa using e1
    simp [Instr.buildSlice,run_underlying hu,sizeOf,typeInfo,hi,hps0,Instr.fill,newRow]
    congr 2
    exact Array.eq_empty_of_size_eq_zero (by simp)
   ·have hmul:vs.length*i.size≠0:=by rw [hsz]; exact Nat.mul_ne_zero h0 (by omega)
    refine run_buildSlice w t e vs.length _ _ i z hu hi hz (by rw [hsz,e3]; omega) hmul ?_
    rw [hparts]
    exact Great.fill_whole (by rw [hsz]; exact hpos) vs _ (fun v hv=>by rw [hsz]; exact hall v hv) (by simp)
  simp only [execOp,ho,Sem.run_bind,hrun,Result.andThen_ok,Sem.run_pure]
 ·cases h2
theorem TB {vs:List Value} {k:Nat} (h:∀ v∈vs,v.cells.size=k):(vs.flatMap fun v=>v.cells.toList).length=vs.length*k:=by
 induction vs with
 | nil=>simp
 | cons v vs ih =>
  have h1:v.cells.size=k:=h v (by simp)
  have h2:=ih fun u hu=>h u (by simp [hu])
  rw [List.flatMap_cons,List.length_append,h2,List.length_cons,Nat.succ_mul]
  simp [h1]
  omega
theorem AA1 {n:Nat} {o:Oper} {d:Nat} {e:TypeId} {K:Kd} {qs:List Cv} {cal:GM} (h:bsB P n o d K qs e=true):I7 P n o (.brow d e K qs) cal:=by
 intro ρ kn r s act w H φ next Q hs hf hn hk hnext
 obtain ⟨hd,hdn,hsm,vs,e2,e3,_,hrun⟩:=pT h hf
 simp only [EQ] at hk
 cases hq:s.keepAlls (qs.map s.opd) with
 | none=>rw [hq] at hk; cases hk
 | some z =>
  obtain ⟨css,s1⟩:=z
  rw [hq] at hk
  simp only [Z] at hk
  cases hx:K.ofs css with
  | none=>rw [hx] at hk; cases hk
  | some xs =>
   rw [hx] at hk
   simp only [Z] at hk
   obtain ⟨H1,g1,k1,f1,e1,_⟩:=II hs e2 hq
   obtain ⟨l1,r1,s1'⟩:=kG K f1 hx
   have hflat:=TB s1'
   have hmax:vs.length<=maxLen:=by
    have hpos:=Kd.sz_pos K
    have:qs.length<=qs.length*K.sz:=Nat.le_mul_of_pos_right _ hpos
    simp only [maxLen]
    omega
   have hst:=Z0 g1.sr (World.grownBy_alloc w (.cells (vs.flatMap fun v=>v.cells.toList).toArray e) none) (K:=K) (xs:=xs) (v:=.slice (some ⟨w.heap.size,0,none⟩) vs.length vs.length)
    (by rw [l1]; exact World.ownsRow_lit w _ vs.length (Nat.le_refl _) hmax (by simpa using hflat)) r1
   refine Kb (s:=s) (s1:=⟨s1.fr,s1.st++[.rows e K xs]⟩) (a:=.row s1.st.length) (v:=.slice (some ⟨w.heap.size,0,none⟩) vs.length vs.length) (g1.trans hst) ?_ hn hd hdn hk (hrun s1' w) ?_ hnext (rp.grown hs (World.grownBy_alloc w _ none)) rfl
   ·rw [e1]; exact (hf.mono g1.le k1).mono (HP.le_refl _) (E4 φ s1.st _ _)
   ·exact ⟨by simp,by simp [AN]⟩
theorem Ae.lit {H:HP} {φ:CG} {st:List AS} {w:World} (h:SR H φ st w) (o:Obj):∃ H',Ae H φ st w H' φ st (w.alloc o)/\H' w.heap.size=some o:=by
 have hg:=World.grownBy_alloc w o none
 have hnone:∀ b,w.heap.size<=b->H b=none:=fun b hb=>(h.fresh hb).1
 let H':HP:=fun b=>if b=w.heap.size then some o else H b
 have hle:H.le H':=by
  intro b o' hb
  have:b≠w.heap.size:=fun e=>by rw [hnone b (by omega)] at hb; cases hb
  simp only [H',this,if_false]
  exact hb
 refine ⟨H',⟨hle,⟨fun b o' hb=>?_,fun id bx hid=>?_,h.sep,fun i bi hi hl b hb=>?_,(h.grow hg).cell,h.tb.le hle⟩,fun mv m0 H0 φ0 w0 f=>?_⟩,by simp [H']⟩
 ·by_cases e:b=w.heap.size
  ·subst e
   simp only [H',if_true] at hb
   rw [heap_alloc_new w o]
   exact hb
  ·simp only [H',e,if_false] at hb
   exact (h.grow hg).hp b o' hb
 ·have:=(h.grow hg).box id bx hid
  cases bx with
  | var cs=>obtain ⟨b,c,el,e1,e2,e3⟩:=this; exact ⟨b,c,el,e1,e2,e3.imp fun _ _ h=>h.mono hle⟩
  | rows t' K' xs'=>obtain ⟨flat',o',r'⟩:=this; exact ⟨flat',o',fun j x hx=>(r' j x hx).mono hle⟩
  | mrow t' K' xs'=>obtain ⟨flat',o',r'⟩:=this; exact ⟨flat',o',fun j x hx=>(r' j x hx).mono hle⟩
  | byt t' xs'=>exact this
  | frz K' xs'=>obtain ⟨r',a'⟩:=this; exact ⟨OL (fun _ _ h=>GN.mono hle h) hle r',a'⟩
  | dead=>trivial
 ·have hlt:=(h.box i bi hi).blk_lt hl hb
  have:b≠w.heap.size:=by omega
  simp only [H',this,if_false]
  exact h.out i bi hi hl b hb
 ·have f2:=(Ae.grow h hg).fr mv m0 H0 φ0 w0 f
  refine { f2 with frz:=fun b hb hn=>?_ }
  have:=f.size
  have:b≠w.heap.size:=by omega
  simp only [H',this,if_false]
  exact f.frz b hb hn
theorem AA2 {n:Nat} {o:Oper} {d:Nat} {e:TypeId} {K:Kd} {qs:List Cv} {cal:GM} (h:bsB P n o d K qs e=true):I7 P n o (.blst d K qs) cal:=by
 intro ρ kn r s act w H φ next Q hs hf hn hk hnext
 obtain ⟨hd,hdn,hsm,vs,e2,e3,_,hrun⟩:=pT h hf
 simp only [EQ] at hk
 cases hq:s.keepAlls (qs.map s.opd) with
 | none=>rw [hq] at hk; cases hk
 | some z =>
  obtain ⟨css,s1⟩:=z
  rw [hq] at hk
  simp only [Z] at hk
  cases hx:K.ofs css with
  | none=>rw [hx] at hk; cases hk
  | some xs =>
   rw [hx] at hk
   simp only [Z] at hk
   obtain ⟨H1,g1,k1,f1,e1,_⟩:=II hs e2 hq
   obtain ⟨l1,r1,s1'⟩:=kG K f1 hx
   have hflat:=TB s1'
   obtain ⟨H2,g2,hb2⟩:=Ae.lit g1.sr (.cells (vs.flatMap fun v=>v.cells.toList).toArray e)
   refine Kb (s:=s) (s1:=s1) (a:=.lst K xs) (v:=.slice (some ⟨w.heap.size,0,none⟩) vs.length vs.length) (g1.trans g2) ?_ hn hd hdn hk (hrun s1' w) ?_ hnext (rp.grown hs (World.grownBy_alloc w _ none)) rfl
   ·rw [e1]; exact (hf.mono g1.le k1).mono g2.le (By.refl _ _ _)
   ·refine ⟨_,vs.length,by rw [l1],by rw [l1]; exact Nat.le_refl _,.inr ⟨w.heap.size,0,_,e,(0,0),rfl,hb2,fun j x hx=>?_⟩⟩
    obtain ⟨cs,c1,c2,c3⟩:=Rc r1 (by rw [hflat,l1]) hx
    refine ⟨cs,c1.mono g2.le,c2,fun i u hu=>?_⟩
    have:=c3 i u hu
    simpa using this
def yK (P:Program) (n:Nat) (o:Oper) (d:Nat) (e:TypeId) (K:Kd) (a b:Cv):Bool :=
 KL o n d&&r4 P e K&&(match o.op with
  | .call ⟨.builtin .append,args,tys⟩=>(match args.toList,tys.toList with
   | [x,y],[t,t']=>Da x a&&Da y b&&t==t'&&(match P.underlying t with | some (.slice e')=>e'==e | _=>false)
   | _,_=>false)
  | _=>false)
theorem ACE {n:Nat} {o:Oper} {d:Nat} {e:TypeId} {K:Kd} {a b:Cv} {cal:GM} (h:yK P n o d e K a b=true):I7 P n o (.app d e K a b) cal:=by
 intro ρ kn r s act w H φ next Q hs hf hn hk hnext
 simp only [yK,AC] at h
 obtain ⟨⟨h1,hel⟩,h2⟩:=h
 obtain ⟨hd,hdn⟩:=Bo h1
 split at h2
 ·rename_i args tys ho
  split at h2
  ·rename_i x y t t' ha ht
   simp only [AC,beq_iff_eq] at h2
   obtain ⟨⟨⟨hx,hy⟩,rfl⟩,hu⟩:=h2
   have hu:P.underlying t=some (.slice e):=by
    split at hu
    ·rename_i e' hu'
     simp only [beq_iff_eq] at hu
     rw [hu',hu]
    ·cases hu
   have ha:args=#[x,y]:=by rw [<- ha]
   have ht:tys=#[t,t]:=by rw [<- ht]
   subst ha ht
   have vx:=BX hf hx
   have vy:=BX hf hy
   simp only [EQ] at hk
   split at hk
   ·rename_i id hxa
    rw [hxa] at vx
    obtain ⟨ex,_⟩:=vx
    split at hk
    ·rename_i t0 K0 xs hb
     split at hk
     ·rename_i hK
      subst hK
      split at hk
      ·rename_i ht0
       subst ht0
       obtain ⟨ys,hk',sl,cap2,flat2,ev,hl2,hr2,hc2,hn2⟩:=tY hs (d9 vy hk) hk
       split at hk'
       ·rename_i hlim
        obtain ⟨v',w',hrun,hst,hkb,hmem⟩:=mx (P:=P) (t:=t) (ty:=o.type) hs hb hu hel ev hl2 hr2 hc2 hn2 hlim
        refine Kb (s:=s) (s1:=⟨s.fr.map (O8 [id]),(s.st.map (AS.kill [id])).set id (.rows t0 K0 (xs++ys))⟩) (a:=.row id) (v:=v') hst (hf.kill hkb) hn hd hdn hk' ?_ ?_ hnext ?_ rfl
        ·rw [<- ex] at hrun
         simp only [execOp,ho,resolve,Sem.run_bind,Sem.run_pure,Result.andThen_ok,invoke,builtin,List.map_toArray,List.map_cons,List.map_nil,hrun]
        ·have hlt:id<s.st.length:=(Aj.1 hb).1
         refine ⟨by simp,?_⟩
         unfold AN
         rw [BD]
         simp [hlt]
        ·intro i bx hi hl hni b hb'
         simp only [GB.touch,hxa] at hni
         exact hmem.block b ((hs.box i bx hi).blk_lt hl hb') (fun e=>hs.sep i id bx _ hi hb hl rfl (by simpa using hni) b hb' e.symm)
       ·cases hk'
      ·cases hk
     ·cases hk
    ·cases hk
   ·cases hk
  ·cases h2
 ·cases h2
theorem ACF {n:Nat} {o:Oper} {d:Nat} {e:TypeId} {K:Kd} {a b:Cv} {cal:GM} (h:yK P n o d e K a b=true):I7 P n o (.apz d e K a b) cal:=by
 intro ρ kn r s act w H φ next Q hs hf hn hk hnext
 simp only [yK,AC] at h
 obtain ⟨⟨h1,hel⟩,h2⟩:=h
 obtain ⟨hd,hdn⟩:=Bo h1
 split at h2
 ·rename_i args tys ho
  split at h2
  ·rename_i x y t t' ha ht
   simp only [AC,beq_iff_eq] at h2
   obtain ⟨⟨⟨hx,hy⟩,rfl⟩,hu⟩:=h2
   have hu:P.underlying t=some (.slice e):=by
    split at hu
    ·rename_i e' hu'
     simp only [beq_iff_eq] at hu
     rw [hu',hu]
    ·cases hu
   have ha:args=#[x,y]:=by rw [<- ha]
   have ht:tys=#[t,t]:=by rw [<- ht]
   subst ha ht
   have vx:=BX hf hx
   have vy:=BX hf hy
   simp only [EQ] at hk
   split at hk
   ·rename_i id hxa
    rw [hxa] at vx
    obtain ⟨ex,_⟩:=vx
    split at hk
    ·rename_i t0 K0 xs hb
     split at hk
     ·rename_i hK
      subst hK
      split at hk
      ·rename_i ht0
       subst ht0
       obtain ⟨ys,hk',sl,cap2,flat2,ev,hl2,hr2,hc2,hn2⟩:=tY hs (d9 vy hk) hk
       split at hk'
       ·rename_i hlim
        obtain ⟨v',w',hrun,hst,hkb,hmem⟩:=mx (P:=P) (t:=t) (ty:=o.type) hs hb hu hel ev hl2 hr2 hc2 hn2 hlim
        have hlt:id<s.st.length:=(Aj.1 hb).1
        have hid1:((s.st.map (AS.kill [id])).set id (.rows t0 K0 (xs++ys)))[id]? = some (.rows t0 K0 (xs++ys)):=by
         rw [BD]
         simp [hlt]
        obtain ⟨H2,hst2,hrep,_⟩:=Ae.freeze hst.sr hid1
        rw [List.set_set] at hst2
        have hkf:=gP (φ:=fun i=>if i=id then v' else φ i) hid1
        rw [List.set_set] at hkf
        refine Kb (s:=s) (s1:=⟨s.fr.map (O8 [id]),(s.st.map (AS.kill [id])).set id (.frz K0 (xs++ys))⟩) (a:=.lst K0 (xs++ys)) (v:=v') (hst.trans hst2) (Gw.mono hst2.le hkf (hf.kill hkb)) hn hd hdn hk' ?_ ?_ hnext ?_ rfl
        ·rw [<- ex] at hrun
         simp only [execOp,ho,resolve,Sem.run_bind,Sem.run_pure,Result.andThen_ok,invoke,builtin,List.map_toArray,List.map_cons,List.map_nil,hrun]
        ·have h7:=hrep
         simp only [if_true] at h7
         exact h7
        ·intro i bx hi hl hni b hb'
         simp only [GB.touch,hxa] at hni
         exact hmem.block b ((hs.box i bx hi).blk_lt hl hb') (fun e=>hs.sep i id bx _ hi hb hl rfl (by simpa using hni) b hb' e.symm)
       ·cases hk'
      ·cases hk
     ·cases hk
    ·cases hk
   ·cases hk
  ·cases h2
 ·cases h2
end Go.Proofs.YtfcgblnlopemkaaGreatDoor.Core
