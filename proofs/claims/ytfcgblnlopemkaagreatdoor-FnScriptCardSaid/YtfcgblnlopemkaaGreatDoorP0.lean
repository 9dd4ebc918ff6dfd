/- Texts of the proof, packed: part 1. -/
import Derived.Calls
import Derived.Tactics
import Derived.Laws.AppendOwn
import Derived.Below
import Derived.Lib.ItoaNum
import Derived.Deep.MidRow
import Derived.Laws.IdiomCopy
import Derived.Laws.AppendOwnNone
import Derived.Laws.OwnMore
import Derived.Great.BuildSlice
import Derived.Laws.StructEq
import Derived.Laws.BytesString
import Derived.Laws.BytesArg
import Derived.Laws.Slices
set_option linter.unusedVariables false
set_option linter.unusedSimpArgs false
namespace Go.Proofs.YtfcgblnlopemkaaGreatDoor.Core
open Go
abbrev U:ByteArray:=ByteArray.empty
theorem AE:type_of%@Bool.and_eq_true:=@Bool.and_eq_true
theorem As:type_of%@List.getElem?_eq_some_iff:=@List.getElem?_eq_some_iff
theorem BO:type_of%@List.getElem?_append_left:=@List.getElem?_append_left
theorem Cs:type_of%@List.getElem?_append_right:=@List.getElem?_append_right
theorem Ab:type_of%@Int.toNat_natCast:=@Int.toNat_natCast
theorem CV:type_of%@List.mem_append:=@List.mem_append
theorem BT:type_of%@Option.some.injEq:=@Option.some.injEq
theorem BK:type_of%@List.getElem?_set:=@List.getElem?_set
theorem CA:type_of%@List.getElem?_take:=@List.getElem?_take
theorem Cd:type_of%@List.getElem?_map:=@List.getElem?_map
theorem DC:type_of%@List.getElem?_drop:=@List.getElem?_drop
theorem BC:type_of%@List.getElem_mem:=@List.getElem_mem
theorem CP:type_of%@Nat.mul_le_mul_right:=@Nat.mul_le_mul_right
theorem Bf:type_of%@List.append_assoc:=@List.append_assoc
theorem BF:type_of%@List.mem_cons:=@List.mem_cons
theorem Dn:type_of%@List.getElem?_eq_none:=@List.getElem?_eq_none
theorem Bp:type_of%@List.all_eq_true:=@List.all_eq_true
theorem Bq:type_of%@List.mem_singleton:=@List.mem_singleton
theorem DD:type_of%@List.length_eq_zero_iff:=@List.length_eq_zero_iff
theorem EX:type_of%@List.getElem_of_mem:=@List.getElem_of_mem
theorem CF:type_of%@Nat.lt_or_ge:=@Nat.lt_or_ge
theorem Do:type_of%@Bool.or_eq_true:=@Bool.or_eq_true
theorem EY:type_of%@Bool.not_eq_true':=@Bool.not_eq_true'
theorem AA {α β:Type _} (a:α) (f:α->Option β):(some a).bind f=f a:=rfl
inductive Kd where
 | int (k:IntKind) | bool | str | slice (e:Kd) | pair (a b:Kd) | own (t:TypeId) (e:Kd) | ref (K:Kd) | fun (f:Nat) | clo (f:Nat) (K:Kd)
 deriving DecidableEq
@[reducible] def Kd.T:Kd->Type
 | .int _=>Int
 | .bool=>Bool
 | .str=>ByteArray
 | .slice e=>List e.T
 | .pair a b=>a.T×b.T
 | .own _ e=>List e.T
 | .ref K=>K.T
 | .fun _=>Unit
 | .clo _ K=>K.T
def Kd.sz:Kd->Nat
 | .pair a b=>a.sz+b.sz
 | _=>1
def Kd.zero:(K:Kd)->K.T
 | .int _=>(0:Int)
 | .bool=>false
 | .str=>ByteArray.empty
 | .slice e=>([]:List e.T)
 | .pair a b=>(a.zero,b.zero)
 | .own _ e=>([]:List e.T)
 | .ref K=>K.zero
 | .fun _=>()
 | .clo _ K=>K.zero
inductive AV where
 | undef
 | void
 | int (k:IntKind) (n:Int)
 | bool (b:Bool)
 | str (s:ByteArray)
 | nil
 | lst (K:Kd) (xs:List K.T)
 | new (t:TypeId) (K:Kd) (xs:List K.T)
 | ref (cs:List AV)
 | row (id:Nat)
 | was (id:Nat)
 | ptr (id off:Nat)
 | eptr (id i off:Nat)
 | fptr (cs:List AV) (off:Nat)
 | agg (cs:List AV)
 | tup (vs:List AV)
 | fn (f:Nat) (caps:List AV)
 | clo (f:Nat) (K:Kd) (x:K.T)
 | self (T:TypeId)
def Kd.enc:(K:Kd)->K.T->List AV
 | .int k,n=>[.int k n]
 | .bool,b=>[.bool b]
 | .str,s=>[.str s]
 | .slice e,xs=>[.lst e xs]
 | .pair a b,x=>a.enc x.1++b.enc x.2
 | .own t e,xs=>[.new t e xs]
 | .ref K,x=>[.ref (K.enc x)]
 | .fun f,_=>[.fn f []]
 | .clo f K,x=>[.clo f K x]
def Kd.av:(K:Kd)->K.T->AV
 | .int k,n=>.int k n
 | .bool,b=>.bool b
 | .str,s=>.str s
 | .slice e,xs=>.lst e xs
 | .pair a b,x=>.agg ((Kd.pair a b).enc x)
 | .own t e,xs=>.new t e xs
 | .ref K,x=>.ref (K.enc x)
 | .fun f,_=>.fn f []
 | .clo f K,x=>.clo f K x
def Kd.dec:(K:Kd)->List AV->Option (K.T×List AV)
 | .int k,.int k' n::r=>if k=k' then some (n,r) else none
 | .bool,.bool b::r=>some (b,r)
 | .str,.str s::r=>some (s,r)
 | .slice _,.nil::r=>some ([],r)
 | .slice e,.lst e' xs::r=>if h:e'=e then some (h▸xs,r) else none
 | .pair a b,cs=>(a.dec cs).bind fun x=>(b.dec x.2).bind fun y=>some ((x.1,y.1),y.2)
 | .own t e,.new t' e' xs::r=>if t'=t then (if h:e'=e then some (h▸xs,r) else none) else none
 | .ref K,.ref cs::r=>(K.dec cs).bind fun x=>match x.2 with | []=>some (x.1,r) | _=>none
 | .fun f,.fn f' []::r=>if f'=f then some ((),r) else none
 | .clo f K,.clo f' K' x::r=>if f'=f then (if h:K'=K then some (h▸x,r) else none) else none
 | _,_=>none
def AV.cells:AV->List AV
 | .agg cs=>cs
 | v=>[v]
def dy:(K:Kd)->K.T->K.T->Bool
 | .int _,a,b=>a==b
 | .bool,a,b=>a==b
 | .str,a,b=>a.toList==b.toList
 | .slice _,_,_=>false
 | .pair a b,x,y=>dy a x.1 y.1&&dy b x.2 y.2
 | .own _ _,_,_=>false
 | .ref _,_,_=>false
 | .fun _,_,_=>false
 | .clo _ _,_,_=>false
def Dp (xs:List Int):ByteArray:=⟨(xs.map fun n=>UInt8.ofNat n.toNat).toArray⟩
def AV.fits:Kd->AV->Bool
 | .pair _ _,.agg _=>true
 | .pair _ _,_=>false
 | _,.agg _=>false
 | _,_=>true
def Kd.ofCells (K:Kd) (cs:List AV):Option K.T:=(K.dec cs).bind fun x=>match x.2 with | []=>some x.1 | _=>none
def Kd.of (K:Kd) (v:AV):Option K.T:=if AV.fits K v=true then K.ofCells v.cells else none
inductive AX where
 | var (cs:List AV)
 | rows (t:TypeId) (K:Kd) (xs:List K.T)
 | mrow (t:TypeId) (K:Kd) (xs:List K.T)
 | byt (t:TypeId) (xs:List (Kd.int .u8).T)
 | frz (K:Kd) (xs:List K.T)
 | dead
structure St where
 fr:List (Nat×AV)
 st:List AX
def GS:List (Nat×AV)->Nat->AV
 | [],_=>.undef
 | (s,v)::r,t=>if s=t then v else GS r t
inductive Cr where
 | t (n:Nat)
 | c (v:AV)
def St.opd (s:St):Cr->AV
 | .t n=>GS s.fr n
 | .c v=>v
def St.put (s:St) (d:Nat) (v:AV):St:=⟨(d,v)::s.fr,s.st⟩
@[reducible] def RT:List Kd->Type
 | []=>Unit
 | [K]=>K.T
 | K::L::Ks=>K.T×RT (L::Ks)
def Cp:(Ks:List Kd)->List AV->Option (RT Ks)
 | [],[]=>some ()
 | [K],[v]=>K.of v
 | K::L::Ks,v::vs=>(K.of v).bind fun x=>(Cp (L::Ks) vs).bind fun r=>some (x,r)
 | _,_=>none
def EC:(Ks:List Kd)->RT Ks->List AV
 | [],_=>[]
 | [K],x=>[K.av x]
 | K::L::Ks,x=>K.av x.1::EC (L::Ks) x.2
inductive PK where
 | val (K:Kd)
 | bor (K:Kd)
 | mov (K:Kd)
 | ptr (K:Kd)
 | mut (K:Kd)
 | movS (K:Kd)
 | cap (f:Nat) (K:Kd)
 | cap0 (f:Nat)
def Br:Nat:=1000000
def rT (xs:List Int):Bool:=xs.all fun x=>decide (0<=x)&&decide (x<256)
def Cq (b:ByteArray):List Int:=b.data.toList.map fun u=>(u.toNat:Int)
inductive Fw where
 | mv (d:Nat) (x:Cr)
 | nilrow (d:Nat) (t:TypeId) (K:Kd)
 | pick (d:Nat) (c a b:Cr)
 | sc (c:Nat) (want:Bool) (ops:List Fw) (d:Nat) (a b:Cr)
 | alloc (d:Nat) (cs:List AV)
 | box (d:Nat) (x:Cr) (own:Bool)
 | build (d:Nat) (zero:List AV) (parts:List (Nat×Nat×Cr))
 | bnew (d:Nat) (zero:List AV) (parts:List (Nat×Nat×Cr))
 | brow (d:Nat) (t:TypeId) (K:Kd) (parts:List Cr)
 | blst (d:Nat) (K:Kd) (parts:List Cr)
 | load (d:Nat) (x:Cr) (n:Option Nat)
 | store (x y:Cr) (m:Nat) (own:Bool)
 | nilc (d:Nat) (x:Cr)
 | bin (d:Nat) (op:BinOp) (x y:Cr)
 | eqs (d:Nat) (neg:Bool) (K:Kd) (x y:Cr)
 | un (d:Nat) (op:UnOp) (x:Cr)
 | cvi (d:Nat) (k:IntKind) (x:Cr)
 | bts (d:Nat) (x:Cr)
 | fld (d:Nat) (x:Cr) (off:Nat)
 | field (d:Nat) (x:Cr) (off:Nat) (n:Option Nat)
 | idx (d:Nat) (z:Nat) (x i:Cr)
 | sidx (d:Nat) (x i:Cr)
 | aidx (d n:Nat) (x i:Cr)
 | sl (d:Nat) (z:Nat) (x:Cr) (lo hi:Option Cr)
 | mk (d:Nat) (t:TypeId) (K:Kd) (n:Cr)
 | fn (d:Nat) (f:Nat) (caps:List Cr)
 | clo (d:Nat) (f:Nat) (K:Kd) (x:Cr)
 | fbox (d:Nat) (x:Cr)
 | min (d:Nat) (x y:Cr)
 | app (d:Nat) (e:TypeId) (K:Kd) (a b:Cr)
 | apz (d:Nat) (e:TypeId) (K:Kd) (a b:Cr)
 | len (d:Nat) (t:Bool) (x:Cr)
 | call (d:Option Nat) (f:Nat) (args:List (Cr×PK)) (res:List Kd)
 | bld (d:Option Nat) (k f t:Nat) (x y:Cr)
 | stb (d:Nat) (t:TypeId) (x:Cr)
 | ext (d:Nat) (x:Cr) (i:Nat)
def St.list {ρ:Type} (s:St) (v:AV) (K:Kd) (kn:List K.T->Option ρ):Option ρ :=
 match v with
 | .nil=>kn []
 | .lst K' xs=>if h:K'=K then kn (h▸xs) else none
 | .row id=>match s.st[id]? with
  | some (.rows _ K' xs)=>if h:K'=K then kn (h▸xs) else none
  | some (.frz K' xs)=>if h:K'=K then kn (h▸xs) else none
  | some (.mrow _ K' xs)=>if h:K'=K then kn (h▸xs) else none
  | some (.byt _ xs)=>if h:Kd.int .u8=K then kn (h▸xs) else none
  | _=>none
 | _=>none
def St.keep (s:St) (v:AV):Option (AV×St) :=
 match v with
 | .int .. | .bool _ | .str _ | .nil | .lst .. | .fn _ [] | .clo .. => some (v,s)
 | .row id=>match s.st[id]? with
  | some (.rows _ K xs)=>some (.lst K xs,⟨s.fr,s.st.set id (.frz K xs)⟩)
  | some (.frz K xs)=>some (.lst K xs,s)
  | _=>none
 | _=>none
def St.keepAll (s:St):List AV->Option (List AV×St)
 | []=>some ([],s)
 | v::vs=>(s.keep v).bind fun x=>(x.2.keepAll vs).bind fun y=>some (x.1::y.1,y.2)
def St.keepAlls (s:St):List AV->Option (List (List AV)×St)
 | []=>some ([],s)
 | v::vs=>(s.keepAll v.cells).bind fun x=>(x.2.keepAlls vs).bind fun y=>some (x.1::y.1,y.2)
def putCells:List AV->Nat->List AV->List AV
 | cs,_,[]=>cs
 | cs,o,v::vs=>putCells (cs.set o v) (o+1) vs
def AV.solid:AV->Bool
 | .int .. | .bool _ | .str _ | .nil | .lst .. | .fn _ [] | .clo .. => true
 | _=>false
def AV.good:AV->Bool
 | .row _=>true
 | v=>v.solid
def AV.firm:AV->Bool
 | .agg cs=>cs.all AV.solid
 | v=>v.solid
def CB:List Nat->Nat->Bool
 | [],_=>false
 | a::r,i=>if a=i then true else CB r i
def AV.kill1 (ids:List Nat):AV->AV
 | .row i=>if CB ids i=true then .undef else .row i
 | .eptr i j o=>if CB ids i=true then .undef else .eptr i j o
 | .agg _=>.undef
 | .tup _=>.undef
 | v=>v
def AV.kill (ids:List Nat):AV->AV
 | .agg cs=>.agg (cs.map (AV.kill1 ids))
 | .tup vs=>if vs.all AV.firm=true then .tup vs else .undef
 | v=>v.kill1 ids
def Qa (ids:List Nat) (p:Nat×AV):Nat×AV:=(p.1,p.2.kill ids)
def AV.killB (ids:List Nat):AV->AV
 | .row i=>if CB ids i=true then .was i else .row i
 | v=>v
def AX.kill (ids:List Nat):AX->AX
 | .var cs=>.var (cs.map (AV.killB ids))
 | b=>b
def St.kill (s:St) (ids:List Nat):St:=⟨s.fr.map (Qa ids),s.st.map (AX.kill ids)⟩
def AGX:Option AX->Bool
 | some (.rows _ _ _)=>true
 | some .dead=>true
 | _=>false
def St.intoRow (s:St) (i:Nat) (v:AV):Option (AV×St×List Nat) :=
 match v with
 | .row k=>if k=i then some (.row i,s,[]) else match s.st[k]? with
  | some (.rows t K xs)=>if AGX s.st[i]? = true then some (.row i,⟨s.fr.map (Qa [i,k]),((s.st.map (AX.kill [i,k])).set i (.rows t K xs)).set k .dead⟩,[i,k]) else none
  | _=>none
 | .nil=>match s.st[i]? with
  | some (.rows t K _)=>some (.row i,⟨s.fr.map (Qa [i]),(s.st.map (AX.kill [i])).set i (.rows t K [])⟩,[i])
  | _=>none
 | _=>none
def St.into (s:St) (own:Bool) (c v:AV):Option (AV×St×List Nat) :=
 match c with
 | .row i=>s.intoRow i v
 | .was i=>s.intoRow i v
 | _=>if own=true then (match v with
   | .row k=>some (.row k,s,[])
   | _=>if v.solid=true then some (v,s,[]) else none)
  else (s.keep v).bind fun x=>some (x.1,x.2,[])
def AV.rowIn (ids:List Nat):AV->Bool
 | .row i=>CB ids i
 | _=>false
def St.intoAll (s:St) (own:Bool):List AV->List AV->Option (List AV×St×List Nat)
 | [],[]=>some ([],s,[])
 | c::cs,v::vs=>(s.into own c v).bind fun x=>(x.2.1.intoAll own cs (vs.map (AV.kill1 x.2.2))).bind fun y =>
   if x.1.rowIn y.2.2=true then none else some (x.1::y.1,y.2.1,x.2.2++y.2.2)
 | _,_=>none
def St.stash (s:St) (own:Bool) (cs:List AV):Option (List AV×St) :=
 if own=true then (if cs.all AV.good=true then some (cs,s) else none) else s.keepAll cs
def St.behind (s:St) (v:AV):Option (List AV×Nat) :=
 match v with
 | .fptr cs off=>some (cs,off)
 | .ptr id off=>match s.st[id]? with
  | some (.var cs)=>some (cs,off)
  | _=>none
 | .eptr id i off=>match s.st[id]? with
  | some (.rows _ K xs)=>some (K.enc (xs.getD i K.zero),off)
  | some (.frz K xs)=>some (K.enc (xs.getD i K.zero),off)
  | some (.mrow _ K xs)=>some (K.enc (xs.getD i K.zero),off)
  | some (.byt _ xs)=>some ((Kd.int .u8).enc (xs.getD i (Kd.int .u8).zero),off)
  | _=>none
 | _=>none
def part (cs:List AV) (off:Nat):Option Nat->AV
 | some n=>.agg ((cs.drop off).take n)
 | none=>(cs.drop off).headD .undef
def AV.full:AV->Bool
 | .undef | .void | .tup _ | .new .. | .ref _ | .was _ | .self _=>false
 | _=>true
def St.filled (s:St):List AV->List (Nat×Nat×Cr)->Option (List AV)
 | cs,[]=>some cs
 | cs,(off,n,x)::r=>if (s.opd x).full=true/\(s.opd x).cells.length=n/\off+n<=cs.length then s.filled (putCells cs off (s.opd x).cells) r else none
def St.storeAt (s:St) (own:Bool) (p:AV) (vs:List AV):Option St :=
 match p with
 | .ptr id off=>match s.st[id]? with
  | some (.var cs)=>if off+vs.length<=cs.length then (s.intoAll own ((cs.drop off).take vs.length) vs).bind fun y=>match y.2.1.st[id]? with
    | some (.var cs')=>some ⟨y.2.1.fr,y.2.1.st.set id (.var (putCells cs' off y.1))⟩
    | _=>none
   else none
  | _=>none
 | .eptr id i off=>(s.keepAll vs).bind fun z=>match z.2.st[id]? with
  | some (.rows t K xs)=>if off+z.1.length<=K.sz then
    (K.dec (putCells (K.enc (xs.getD i K.zero)) off z.1)).bind fun x=>some ⟨z.2.fr,z.2.st.set id (.rows t K (xs.set i x.1))⟩
   else none
  | some (.mrow t K xs)=>if off+z.1.length<=K.sz then
    (K.dec (putCells (K.enc (xs.getD i K.zero)) off z.1)).bind fun x=>some ⟨z.2.fr,z.2.st.set id (.mrow t K (xs.set i x.1))⟩
   else none
  | some (.byt t xs)=>if off=0 then (match z.1 with
   | [.int .u8 c]=>some ⟨z.2.fr,z.2.st.set id (.byt t (xs.set i c))⟩
   | _=>none) else none
  | _=>none
 | _=>none
def NL (k:IntKind) (a b:Int):Int:=k.wrap (BitVec.ofInt k.bits a &&& BitVec.ofInt k.bits b).toNat
def ABl (k:IntKind) (a b:Int):Int:=k.wrap (BitVec.ofInt k.bits a ||| BitVec.ofInt k.bits b).toNat
def ld (k:IntKind) (a b:Int):Int:=k.wrap (BitVec.ofInt k.bits a ^^^ BitVec.ofInt k.bits b).toNat
def rU {ρ:Type} (op:BinOp) (x y:AV) (kn:AV->Option ρ):Option ρ :=
 match x,y with
 | .int k a,.int k' b =>
  match op with
  | .shl=>if b<0 then none else kn (.int k (k.wrap (a*2^(min b.toNat k.bits))))
  | .shr=>if b<0 then none else kn (.int k (a.fdiv (2^(min b.toNat k.bits))))
  | _=>if k=k' then
   match op with
   | .add=>kn (.int k (k.wrap (a+b)))
   | .sub=>kn (.int k (k.wrap (a-b)))
   | .mul=>kn (.int k (k.wrap (a*b)))
   | .quo=>if b=0 then none else kn (.int k (k.wrap (a.tdiv b)))
   | .rem=>if b=0 then none else kn (.int k (a.tmod b))
   | .and=>kn (.int k (NL k a b))
   | .or=>kn (.int k (ABl k a b))
   | .xor=>kn (.int k (ld k a b))
   | .eql=>kn (.bool (a==b))
   | .neq=>kn (.bool (a != b))
   | .lss=>kn (.bool (a<b))
   | .leq=>kn (.bool (a<=b))
   | .gtr=>kn (.bool (a>b))
   | .geq=>kn (.bool (a>=b))
   | _=>none
  else none
 | .str a,.str b =>
  match op with
  | .add=>if a.size+b.size<=1099511627776 then kn (.str (a++b)) else none
  | .eql=>kn (.bool (a.toList==b.toList))
  | .neq=>kn (.bool (!(a.toList==b.toList)))
  | .lss=>kn (.bool (Op.bytesLess a.toList b.toList))
  | .leq=>kn (.bool (Op.bytesLess a.toList b.toList||a.toList==b.toList))
  | .gtr=>kn (.bool (!(Op.bytesLess a.toList b.toList||a.toList==b.toList)))
  | .geq=>kn (.bool (!(Op.bytesLess a.toList b.toList)))
  | _=>none
 | _,_=>none
def AC4 {ρ:Type} (op:UnOp) (x:AV) (kn:AV->Option ρ):Option ρ :=
 match op,x with
 | .not,.bool b=>kn (.bool (!b))
 | .neg,.int k n=>kn (.int k (k.wrap (0-n)))
 | _,_=>none
def Kd.ofs (K:Kd):List (List AV)->Option (List K.T)
 | []=>some []
 | cs::vs=>(K.dec cs).bind fun x=>match x.2 with | []=>(K.ofs vs).bind fun xs=>some (x.1::xs) | _=>none
def AV.isNew:AV->Bool
 | .new .. | .ref _=>true
 | _=>false
def AT:List AV->Nat
 | []=>0
 | a::r=>if a.isNew=true then AT r+1 else AT r
def Bl:Nat->List AV->List AV
 | _,[]=>[]
 | k,a::r=>match a with
  | .new .. => .row k::Bl (k+1) r
  | .ref _=>.ptr k 0::Bl (k+1) r
  | a=>a::Bl k r
def BM:List AV->List AX
 | []=>[]
 | a::r=>match a with
  | .new t K xs=>.rows t K xs::BM r
  | .ref cs=>.var cs::BM r
  | _=>BM r
def lf (k:Nat):AV->AV
 | .agg cs=>.agg (Bl k cs)
 | v=>(Bl k [v]).headD .undef
def Di:Nat->List AV->List AV
 | _,[]=>[]
 | k,v::r=>lf k v::Di (k+AT v.cells) r
def AV.cellsO:AV->List AV
 | .new .. => []
 | v=>v.cells
def AAi (k:Nat):AV->AX
 | .new t K xs=>.mrow t K xs
 | v=>.var (Bl k v.cells)
def Qb:Nat->List AV->List AX
 | _,[]=>[]
 | k,v::r=>AAi k v::Qb (k+AT v.cellsO) r
def YH:List AV->List AX
 | []=>[]
 | v::r=>BM v.cellsO++YH r
def lg:List AV->List AX
 | []=>[]
 | v::r=>BM v.cells++lg r
def Bo (outs vs:List AV):List AX:=Qb outs.length outs++(YH outs++lg vs)
def Fx (outs:List AV):Nat:=outs.length+(YH outs).length
def Kd.leaves:Kd->List Kd
 | .pair a b=>a.leaves++b.leaves
 | K=>[K]
def Kd.isOwn:Kd->Bool
 | .own _ _=>true
 | _=>false
def Kd.owns (K:Kd):List Kd:=K.leaves.filter Kd.isOwn
def rV:List Kd->Nat->List (Nat×Kd)
 | [],_=>[]
 | k::ks,j=>(j,k)::rV ks (j+1)
def sD (st:List AX):List AV->Option (List AV×List Nat)
 | []=>some ([],[])
 | v::vs=>match v with
  | .row id=>match st[id]? with
   | some (.rows _ e xs)=>(sD st vs).bind fun r=>some (.lst e xs::r.1,id::r.2)
   | some (.frz e xs)=>(sD st vs).bind fun r=>some (.lst e xs::r.1,r.2)
   | _=>none
  | v=>if v.solid=true then (sD st vs).bind fun r=>some (v::r.1,r.2) else none
def AV.norm (k:Kd) (v:AV):Option AV :=
 match v with
 | .nil=>match k with
  | .slice e=>some (.lst e [])
  | _=>none
 | v=>if v.solid=true then some v else none
def iB (st:List AX):Nat->List Kd->List AV->Option (List AV×List (Nat×Kd))
 | _,[],[]=>some ([],[])
 | j,k::ks,v::vs=>match v with
  | .row id=>match st[id]? with
   | some (.rows t e _)=>if Kd.own t e=k then (iB st (j+1) ks vs).bind fun r=>some (.row j::r.1,(id,k)::r.2) else none
   | some (.mrow t e _)=>if Kd.own t e=k then (iB st (j+1) ks vs).bind fun r=>some (.row j::r.1,(id,k)::r.2) else none
   | _=>none
  | v=>(v.norm k).bind fun a=>(iB st j ks vs).bind fun r=>some (a::r.1,r.2)
 | _,_,_=>none
def AV.like (v:AV) (cs:List AV):AV :=
 match v with
 | .agg _=>.agg cs
 | _=>cs.headD .undef
structure AAj where
 args:List AV
 ptrs:List (Nat×Kd)
 movs:List Nat
 bors:List Nat
def St.settle (s:St):List Kd->List AV->Option St
 | [],[]=>some s
 | k::ks,v::vs=>match v with
  | .row i=>match k with
   | .own _ _=>s.settle ks vs
   | _=>(s.keep (.row i)).bind fun x=>x.2.settle ks vs
  | _=>s.settle ks vs
 | _,_=>none
def Kz (st:List AX):List Kd->List AV->Option (List AV×List Nat)
 | [],[]=>some ([],[])
 | k::ks,v::vs=>match v with
  | .row i=>match k with
   | .own _ _=>match st[i]? with
    | some (.rows t e xs)=>(Kz st ks vs).bind fun y=>some (.new t e xs::y.1,i::y.2)
    | _=>none
   | .slice e'=>match st[i]? with
    | some (.frz e xs)=>if e=e' then (Kz st ks vs).bind fun y=>some (.lst e xs::y.1,y.2) else none
    | _=>none
   | _=>none
  | v=>(v.norm k).bind fun a=>(Kz st ks vs).bind fun y=>some (a::y.1,y.2)
 | _,_=>none
def St.args (s:St):List (Cr×PK)->Nat->Option (AAj×St)
 | [],_=>some (⟨[],[],[],[]⟩,s)
 | (x,.val K)::r,j=>if AV.fits K (s.opd x)=true then (s.keepAll (s.opd x).cells).bind fun y=>(K.ofCells y.1).bind fun z=>(y.2.args r j).bind fun q =>
   some (⟨K.av z::q.1.args,q.1.ptrs,q.1.movs,q.1.bors⟩,q.2) else none
 | (x,.bor K)::r,j=>match s.opd x with
  | .row id=>match s.st[id]? with
   | some (.rows _ e xs)=>if Kd.slice e=K then (s.args r j).bind fun q=>some (⟨.lst e xs::q.1.args,q.1.ptrs,q.1.movs,id::q.1.bors⟩,q.2) else none
   | some (.frz e xs)=>if Kd.slice e=K then (s.args r j).bind fun q=>some (⟨.lst e xs::q.1.args,q.1.ptrs,q.1.movs,q.1.bors⟩,q.2) else none
   | _=>none
  | .agg cs=>if AV.fits K (.agg cs)=true then (sD s.st cs).bind fun y=>(K.ofCells y.1).bind fun z=>(s.args r j).bind fun q=>some (⟨K.av z::q.1.args,q.1.ptrs,q.1.movs,y.2++q.1.bors⟩,q.2) else none
  | v=>if v.solid=true then (K.ofCells [v]).bind fun z=>(s.args r j).bind fun q=>some (⟨K.av z::q.1.args,q.1.ptrs,q.1.movs,q.1.bors⟩,q.2) else none
 | (x,.mov K)::r,j=>match s.opd x with
  | .row id=>match s.st[id]? with
   | some (.rows t e xs)=>if Kd.own t e=K then (s.args r j).bind fun q=>some (⟨.new t e xs::q.1.args,q.1.ptrs,id::q.1.movs,q.1.bors⟩,q.2) else none
   | _=>none
  | _=>none
 | (x,.movS K)::r,j=>match s.opd x with
  | .agg cs=>(Kz s.st K.leaves cs).bind fun y=>(s.args r j).bind fun q=>some (⟨.agg y.1::q.1.args,q.1.ptrs,y.2++q.1.movs,q.1.bors⟩,q.2)
  | _=>none
 | (x,.ptr K)::r,j=>match s.opd x with
  | .ptr id 0=>match s.st[id]? with
   | some (.var cs)=>(s.settle K.leaves cs).bind fun s1=>(s1.args r (j+1)).bind fun q=>some (⟨.ptr j 0::q.1.args,(id,K)::q.1.ptrs,q.1.movs,q.1.bors⟩,q.2)
   | _=>none
  | _=>none
 | (x,.mut K)::r,j=>(iB s.st j K.leaves (s.opd x).cells).bind fun y=>(s.args r (j+y.2.length)).bind fun q =>
   some (⟨(s.opd x).like y.1::q.1.args,y.2++q.1.ptrs,q.1.movs,q.1.bors⟩,q.2)
 | (x,.cap f K)::r,j=>match s.opd x with
  | .clo f' K' z=>if f'=f then (if K'=K then (s.args r j).bind fun q=>some (⟨.fptr (K'.enc z) 0::q.1.args,q.1.ptrs,q.1.movs,q.1.bors⟩,q.2) else none) else none
  | _=>none
 | (x,.cap0 f)::r,j=>match s.opd x with
  | .fn f' []=>if f'=f then s.args r j else none
  | _=>none
def QK:List Kd->List AV->Option (List AV)
 | [],[]=>some []
 | k::ks,v::vs=>(v.norm k).bind fun a=>(QK ks vs).bind fun r=>some (a::r)
 | _,_=>none
def NM (st:List AX):List (Nat×Kd)->Option (List AV×List Nat)
 | []=>some ([],[])
 | (b,K)::bs=>match st[b]? with
  | some (.var cs)=>if K.isOwn=true then none else (Kz st K.leaves cs).bind fun y=>(K.ofCells y.1).bind fun x=>(NM st bs).bind fun r=>some (K.av x::r.1,y.2++r.2)
  | some (.rows t e xs)=>if Kd.own t e=K then (NM st bs).bind fun r=>some (.new t e xs::r.1,r.2) else none
  | some (.mrow t e xs)=>if Kd.own t e=K then (NM st bs).bind fun r=>some (.new t e xs::r.1,r.2) else none
  | _=>none
def zP:List Nat->Bool
 | []=>true
 | p::r=>!(CB r p)&&zP r
def zQ:List Nat->List Nat->Bool
 | [],_=>true
 | p::r,l=>!(CB l p)&&zQ r l
def lh (st:List AX):List Nat->Bool
 | []=>true
 | i::r=>(match st[i]? with | some (.rows _ _ _)=>true | _=>false)&&lh st r
def Xy:List Nat->Nat->Option Nat
 | [],_=>none
 | a::r,i=>if a=i then some 0 else (Xy r i).map (· + 1)
def AV.ren (f:Nat->Nat):AV->AV
 | .row k=>.row (f k)
 | .ptr k o=>.ptr (f k) o
 | .eptr k i o=>.eptr (f k) i o
 | v=>v
def AV.renV (f:Nat->Nat):AV->AV
 | .agg cs=>.agg (cs.map (AV.ren f))
 | v=>v.ren f
def AX.ren (f:Nat->Nat):AX->AX
 | .var cs=>.var (cs.map (AV.ren f))
 | b=>b
def NF (back:List Nat) (n k:Nat):Nat:=if k<back.length then back.getD k 0 else n+(k-back.length)
def uI:AX->AX->AX
 | .rows _ _ _,.mrow t K xs=>.rows t K xs
 | _,e=>e
def VQ (back gone:List Nat) (nv n:Nat) (est:List AX):Nat->List AX->List AX
 | _,[]=>[]
 | i,b::r=>(if CB gone i=true then .dead else match Xy back i with
   | some k=>(uI b (est.getD k .dead)).ren (NF back n)
   | none=>b.kill (back.drop nv++gone))::VQ back gone nv n est (i+1) r
def R2 (st:List AX) (nv:Nat) (back gone:List Nat) (est:List AX):List AX :=
 VQ back gone nv st.length est 0 st++(est.drop back.length).map (AX.ren (NF back st.length))
def Kd.flat:Kd->Bool
 | .slice _ | .own _ _ | .ref _ | .fun _ | .clo _ _=>false
 | .pair a b=>a.flat&&b.flat
 | _=>true
def AV.flat:AV->Bool
 | .int .. | .bool _ | .str _ | .nil | .row _ | .was _ | .ptr .. => true
 | _=>false
def AV.flatV:AV->Bool
 | .agg cs=>cs.all AV.flat
 | v=>v.flat
def AX.flat:AX->Bool
 | .var cs=>cs.all AV.flat
 | .rows _ K _=>K.flat
 | .mrow _ K _=>K.flat
 | _=>false
def AGV:List AV->AV
 | [v]=>v
 | vs=>.tup vs
mutual
def Fw.dsts:Fw->List Nat
 | .mv d _ | .nilrow d _ _ | .pick d _ _ _ | .alloc d _ | .box d _ _ | .build d _ _ | .bnew d _ _ | .brow d _ _ _ | .blst d _ _ | .load d _ _ | .nilc d _ | .bin d _ _ _
 | .eqs d _ _ _ _ | .un d _ _ | .cvi d _ _ | .bts d _ | .fld d _ _ | .field d _ _ _ | .idx d _ _ _ | .sidx d _ _ | .aidx d _ _ _ | .sl d _ _ _ _ | .mk d _ _ _ | .fn d _ _ | .clo d _ _ _ | .fbox d _ | .min d _ _
 | .app d _ _ _ _ | .apz d _ _ _ _ | .len d _ _ | .ext d _ _ | .stb d _ _=>[d]
 | .call d _ _ _=>d.toList
 | .bld d _ _ _ _ _=>d.toList
 | .store _ _ _ _=>[]
 | .sc _ _ ops d _ _=>Fy ops++[d]
def Fy:List Fw->List Nat
 | []=>[]
 | o::os=>o.dsts++Fy os
end
def St.forget (s:St) (ds:List Nat):St:=⟨ds.map (fun t=>(t,.undef))++s.fr,s.st⟩
def AAk (d:Option Nat) (v:AV) (fr:List (Nat×AV)):List (Nat×AV):=match d with | some d=>(d,v)::fr | none=>fr
def Fw.isVal:Fw->Bool
 | .mv .. | .pick .. | .load .. | .nilc .. | .bin .. | .eqs .. | .un .. | .cvi .. | .fld .. | .field .. | .idx .. | .sidx .. | .aidx .. | .sl .. | .fn .. | .clo .. | .min .. | .len .. | .ext .. | .build .. => true
 | _=>false
def Fw.touch (s:St):Fw->List Nat
 | .store x _ _ _=>match s.opd x with
  | .ptr id _=>[id]
  | .eptr id _ _=>[id]
  | _=>[]
 | .app _ _ _ a _=>match s.opd a with
  | .row id=>[id]
  | _=>[]
 | .apz _ _ _ a _=>match s.opd a with
  | .row id=>[id]
  | _=>[]
 | .call _ _ args _=>match s.args args 0 with
  | some q=>match NM q.2.st q.1.ptrs with
   | some bx=>q.1.ptrs.map (·.1)++bx.2++q.1.movs
   | none=>[]
  | none=>[]
 | .bld _ _ _ _ x _=>match s.opd x with
  | .ptr id _=>match s.st[id]? with
   | some (.var [.self _,.row j])=>[id,j]
   | _=>[]
  | _=>[]
 | _=>[]
def AFH (k:Nat) (y:AV):Option (List Int) :=
 match y with
 | .int .u8 c=>if k=0 then some [c] else none
 | .str b=>if k=1 then some (Cq b) else none
 | _=>none
abbrev Gi:=Nat->List AV->List AV->Option (List AV)
mutual
def Ef {ρ:Type} (cal:Gi) (kn:St->Option ρ) (s:St):Fw->Option ρ
 | .mv d x=>kn (s.put d (s.opd x))
 | .nilrow d t K=>kn ⟨(d,.row s.st.length)::s.fr,s.st++[.rows t K []]⟩
 | .pick d c a b=>match s.opd c with
  | .bool t=>if t=true then kn (s.put d (s.opd a)) else kn (s.put d (s.opd b))
  | _=>none
 | .sc c want ops d a b=>match GS s.fr c with
  | .bool t =>
   if t=want then ot cal (fun s'=>kn (s'.put d (if want then s'.opd a else s'.opd b))) s ops
   else kn ((s.forget (Fy ops)).put d (if want then (s.forget (Fy ops)).opd b else (s.forget (Fy ops)).opd a))
  | _=>none
 | .alloc d cs=>kn ⟨(d,.ptr (s.st.length+AT cs) 0)::s.fr,s.st++BM cs++[.var (Bl s.st.length cs)]⟩
 | .box d x own=>(s.stash own (s.opd x).cells).bind fun y=>kn ⟨(d,.ptr y.2.st.length 0)::y.2.fr,y.2.st++[.var y.1]⟩
 | .build d zero parts=>(s.filled zero parts).bind fun cs=>kn (s.put d (.agg cs))
 | .bnew d zero parts=>(s.filled (Bl s.st.length zero) parts).bind fun cs=>kn ⟨(d,.agg cs)::s.fr,s.st++BM zero⟩
 | .brow d t K parts=>(s.keepAlls (parts.map s.opd)).bind fun y=>(K.ofs y.1).bind fun xs=>kn ⟨(d,.row y.2.st.length)::y.2.fr,y.2.st++[.rows t K xs]⟩
 | .blst d K parts=>(s.keepAlls (parts.map s.opd)).bind fun y=>(K.ofs y.1).bind fun xs=>kn (y.2.put d (.lst K xs))
 | .load d x n=>(s.behind (s.opd x)).bind fun y=>if y.2+n.getD 1<=y.1.length then kn (s.put d (part y.1 y.2 n)) else none
 | .store x y m own=>if (s.opd y).cells.length=m then (s.storeAt own (s.opd x) (s.opd y).cells).bind kn else none
 | .nilc d x=>match s.opd x with
  | .ptr id off=>kn (s.put d (.ptr id off))
  | .eptr id i off=>kn (s.put d (.eptr id i off))
  | .fptr cs off=>kn (s.put d (.fptr cs off))
  | _=>none
 | .bin d op x y=>rU op (s.opd x) (s.opd y) fun v=>kn (s.put d v)
 | .eqs d neg K x y=>(K.of (s.opd x)).bind fun a=>(K.of (s.opd y)).bind fun b=>kn (s.put d (.bool (neg != dy K a b)))
 | .un d op x=>AC4 op (s.opd x) fun v=>kn (s.put d v)
 | .cvi d k x=>match s.opd x with
  | .int _ n=>kn (s.put d (.int k (k.wrap n)))
  | _=>none
 | .bts d x=>s.list (s.opd x) (.int .u8) fun xs=>kn (s.put d (.str (Dp xs)))
 | .fld d x off=>match s.opd x with
  | .ptr id o=>kn (s.put d (.ptr id (o+off)))
  | .eptr id i o=>kn (s.put d (.eptr id i (o+off)))
  | .fptr cs o=>kn (s.put d (.fptr cs (o+off)))
  | _=>none
 | .field d x off n=>match s.opd x with
  | .agg cs=>if off+n.getD 1<=cs.length then kn (s.put d (part cs off n)) else none
  | _=>none
 | .idx d z x i=>match s.opd x,s.opd i with
  | .lst K xs,.int _ i=>if K.sz=z then if 0<=i then (if i<xs.length then kn (s.put d (.fptr (K.enc (xs.getD i.toNat K.zero)) 0)) else none) else none else none
  | .row id,.int _ i=>match s.st[id]? with
   | some (.rows _ K xs)=>if K.sz=z then if 0<=i then (if i<xs.length then kn (s.put d (.eptr id i.toNat 0)) else none) else none else none
   | some (.frz K xs)=>if K.sz=z then if 0<=i then (if i<xs.length then kn (s.put d (.eptr id i.toNat 0)) else none) else none else none
   | some (.mrow _ K xs)=>if K.sz=z then if 0<=i then (if i<xs.length then kn (s.put d (.eptr id i.toNat 0)) else none) else none else none
   | some (.byt _ xs)=>if (Kd.int .u8).sz=z then if 0<=i then (if i<xs.length then kn (s.put d (.eptr id i.toNat 0)) else none) else none else none
   | _=>none
  | _,_=>none
 | .sidx d x i=>match s.opd x,s.opd i with
  | .str b,.int _ i=>if 0<=i then (if i<b.size then kn (s.put d (.int .u8 (b.data.toList.getD i.toNat 0).toNat)) else none) else none
  | _,_=>none
 | .aidx d n x i=>match s.opd x,s.opd i with
  | .agg cs,.int _ i=>((Kd.int .i64).ofs (cs.map fun c=>[c])).bind fun xs=>if xs.length=n then (if 0<=i then (if i<(n:Int) then kn (s.put d (.int .i64 (xs.getD i.toNat 0))) else none) else none) else none
  | _,_=>none
 | .sl d z x lo hi=>match s.opd x,(match lo with | none=>AV.int .i64 0 | some l=>s.opd l) with
  | .str b,.int _ l=>if z=0 then
   match (match hi with | none=>AV.int .i64 b.size | some h=>s.opd h) with
   | .int _ h=>if 0<=l then (if l<=h then (if h<=b.size then kn (s.put d (.str (b.extract l.toNat h.toNat))) else none) else none) else none
   | _=>none
   else none
  | .lst K xs,.int _ l=>if K.sz=z then
   match (match hi with | none=>AV.int .i64 xs.length | some h=>s.opd h) with
   | .int _ h=>if 0<=l then (if l<=h then (if h<=xs.length then kn (s.put d (.lst K ((xs.take h.toNat).drop l.toNat))) else none) else none) else none
   | _=>none
   else none
  | _,_=>none
 | .mk d t K n=>match s.opd n with
  | .int _ n=>if 0<=n then (if n<=68719476736 then kn ⟨(d,.row s.st.length)::s.fr,s.st++[.rows t K (List.replicate n.toNat K.zero)]⟩ else none) else none
  | _=>none
 | .fn d f caps=>kn (s.put d (.fn f (caps.map s.opd)))
 | .clo d f K x=>match s.opd x with
  | .fptr cs 0=>(K.ofCells cs).bind fun z=>kn (s.put d (.clo f K z))
  | _=>none
 | .fbox d x=>(s.keepAll (s.opd x).cells).bind fun y=>kn (y.2.put d (.fptr y.1 0))
 | .min d x y=>match s.opd x,s.opd y with
  | .int k a,.int k' b=>if k=k' then kn (s.put d (.int k (min a b))) else none
  | _,_=>none
 | .app d e K a b=>match s.opd a with
  | .row id=>match s.st[id]? with
   | some (.rows t K' xs)=>if h:K'=K then if t=e then
     s.list (s.opd b) K fun ys=>if xs.length+ys.length<=68719476736 then kn ⟨(d,.row id)::s.fr.map (Qa [id]),(s.st.map (AX.kill [id])).set id (.rows t K ((h▸xs)++ys))⟩ else none
    else none else none
   | _=>none
  | _=>none
 | .apz d e K a b=>match s.opd a with
  | .row id=>match s.st[id]? with
   | some (.rows t K' xs)=>if h:K'=K then if t=e then
     s.list (s.opd b) K fun ys=>if xs.length+ys.length<=68719476736 then kn ⟨(d,.lst K ((h▸xs)++ys))::s.fr.map (Qa [id]),(s.st.map (AX.kill [id])).set id (.frz K ((h▸xs)++ys))⟩ else none
    else none else none
   | _=>none
  | _=>none
 | .len d t x=>match s.opd x with
  | .str b=>if t=true then kn (s.put d (.int .i64 b.size)) else none
  | .nil=>if t=true then none else kn (s.put d (.int .i64 0))
  | .lst _ xs=>if t=true then none else kn (s.put d (.int .i64 xs.length))
  | .row id=>if t=true then none else match s.st[id]? with
   | some (.rows _ _ xs)=>kn (s.put d (.int .i64 xs.length))
   | some (.frz _ xs)=>kn (s.put d (.int .i64 xs.length))
   | some (.mrow _ _ xs)=>kn (s.put d (.int .i64 xs.length))
   | some (.byt _ xs)=>kn (s.put d (.int .i64 xs.length))
   | _=>none
  | _=>none
 | .call d f args res=>(s.args args 0).bind fun q=>(NM q.2.st q.1.ptrs).bind fun bx =>
   if (zP (q.1.ptrs.map (·.1)++bx.2++q.1.movs)&&zQ q.1.bors (q.1.ptrs.map (·.1)++bx.2++q.1.movs)&&lh q.2.st (q.1.movs++q.1.bors))=true then
    ((cal f q.1.args bx.1).bind (Cp (res++q.1.ptrs.map (·.2)))).bind fun y =>
     if (q.1.bors.isEmpty||((Bo ((EC _ y).drop res.length) ((EC _ y).take res.length)).all AX.flat
       && (Di (Fx ((EC _ y).drop res.length)) ((EC _ y).take res.length)).all AV.flatV))=true then
      kn ⟨AAk d (AGV ((Di (Fx ((EC _ y).drop res.length)) ((EC _ y).take res.length)).map (AV.renV (NF (q.1.ptrs.map (·.1)++bx.2) q.2.st.length))))
        (q.2.fr.map (Qa (bx.2++q.1.movs))),
       R2 q.2.st q.1.ptrs.length (q.1.ptrs.map (·.1)++bx.2) q.1.movs (Bo ((EC _ y).drop res.length) ((EC _ y).take res.length))⟩
     else none
   else none
 | .bld d k f t x y=>match s.opd x with
  | .ptr id 0=>match s.st[id]? with
   | some (.var [.self T,.row j])=>match s.st[j]? with
    | some (.rows t' (.int .u8) xs)=>if t'=t then
      ((cal (Br+f) [.int .i64 k,.int .i64 t,.int .i64 T] []).bind (Cp [])).bind fun _ =>
       if k=2 then (if rT xs=true then kn ⟨AAk d (.str (Dp xs)) (s.fr.map (Qa [j])),(s.st.map (AX.kill [j])).set j .dead⟩ else none)
       else (AFH k (s.opd y)).bind fun ys=>if xs.length+ys.length<=68719476736 then
        kn ⟨AAk d .undef (s.fr.map (Qa [j])),((s.st.map (AX.kill [j])).set j (.rows t (.int .u8) (xs++ys))).set id (.var [.self T,.row j])⟩ else none
     else none
    | _=>none
   | _=>none
  | _=>none
 | .stb d t x=>match s.opd x with
  | .str b=>kn ⟨(d,.row s.st.length)::s.fr,s.st++[.byt t (Cq b)]⟩
  | _=>none
 | .ext d x i=>match s.opd x with
  | .tup vs=>if i<vs.length then kn (s.put d (vs.getD i .undef)) else none
  | _=>none
def ot {ρ:Type} (cal:Gi) (kn:St->Option ρ) (s:St):List Fw->Option ρ
 | []=>kn s
 | o::os=>Ef cal (fun s'=>ot cal kn s' os) s o
end
inductive DT where
 | done
 | take (i:Nat) (g:Option (Nat×Bool)) (ao:Fw) (r:DT)
 | skip (i:Nat) (g:Nat×Bool) (d:Option Nat) (r:DT)
 | only (i:Nat) (g:Option (Nat×Bool)) (ao:Fw) (e:Bool) (fl:List (Nat×Fw)) (r:DT)
 | test (c:Nat) (a b:DT)
 | fork (i:Nat) (ai:Fw) (ri:DT) (j:Nat) (aj:Fw) (rj:DT)
def DT.tk:Nat->List Fw->DT->DT
 | n+1,a::l,r=>tk n l (.take n none a r)
 | _,_,r=>r
def DT.tg (c:Nat) (b:Bool):Nat->List Fw->DT->DT
 | n+1,a::l,r=>tg c b n l (.take n (some (c,b)) a r)
 | _,_,r=>r
def DT.sk (c:Nat) (b:Bool):Nat->Nat->Nat->DT->DT
 | k+1,n+1,d+1,r=>sk c b k n d (.skip n (c,b) (some d) r)
 | _,_,_,r=>r
def Fw.m (d x:Nat):Fw:=.mv d (.t x)
def Fw.l (d x:Nat):Fw:=.load d (.t x) none
def Fw.ls (d x n:Nat):Fw:=.load d (.t x) (some n)
def Fw.f (d x n:Nat):Fw:=.fld d (.t x) n
def Fw.n (d x:Nat):Fw:=.nilc d (.t x)
def Fw.b (d:Nat) (op:BinOp) (x y:Nat):Fw:=.bin d op (.t x) (.t y)
def Fw.cl (d:Nat) (xs:List Nat) (q:Nat×List PK×List Kd):Fw:=.call (some d) q.1 (List.zipWith (fun x k=>(Cr.t x,k)) xs q.2.1) q.2.2
def Fw.cx (d:Option Nat) (xs:List Cr) (q:Nat×List PK×List Kd):Fw:=.call d q.1 (List.zipWith (fun x k=>(x,k)) xs q.2.1) q.2.2
def Fw.al (d:Nat) (K:Kd):Fw:=.alloc d (K.enc K.zero)
def Fw.bu (d:Nat) (K:Kd) (parts:List (Nat×Nat×Cr)):Fw:=.build d (K.enc K.zero) parts
def Cr.i (n:Int):Cr:=.c (.int .i64 n)
def AFI (ex:List (Nat×List Nat)) (i:Nat):List Nat:=match ex.find? (fun (e:Nat×List Nat)=>e.1==i) with
 | some e=>e.2
 | none=>[i-1]
def cls (n:Nat) (ex:List (Nat×List Nat)):List (List Nat) :=
 (List.range n).foldl (fun (acc:List (List Nat)) (i:Nat)=>acc++[(List.range i).filter fun k=>(AFI ex i).any fun p=>p==k||CB (acc.getD p []) k]) []
noncomputable def AAl {ρ:Type} (a b:Option ρ):Option ρ:=@ite _ (a=b) (Classical.propDecidable _) a none
theorem ou {ρ:Type} {a b:Option ρ} {r:ρ}:AAl a b=some r↔a=some r/\b=some r:=by
 unfold AAl
 split
 ·rename_i e; subst e; exact Iff.intro (fun h=>And.intro h h) (fun h=>And.left h)
 ·rename_i e; exact Iff.intro (fun h=>by cases h) (fun h=>absurd (h.1.trans h.2.symm) e)
theorem ow {ρ:Type} {a:Option ρ}:AAl a a=a:=if_pos rfl
def gOk (s:St):Option (Nat×Bool)->Bool
 | none=>true
 | some g=>match GS s.fr g.1 with
  | .bool t=>t==g.2
  | _=>false
def AGY (s:St) (g:Nat×Bool):Bool :=
 match GS s.fr g.1 with
 | .bool t=>t != g.2
 | .void=>true
 | _=>false
def AV.clear (tch:List Nat):AV->Bool
 | .ptr id _=>!CB tch id
 | .eptr id _ _=>!CB tch id
 | .fptr _ _=>true
 | _=>false
def Fw.notSelf:Fw->Bool
 | .load d (.t x) _=>!(d==x)
 | _=>true
def aK (anc tch:List Nat) (s:St):List (Nat×Nat)->Bool
 | []=>true
 | p::r=>(CB anc p.1||(GS s.fr p.2).clear tch)&&aK anc tch s r
def I5 (ds:List Nat):List (Nat×Nat)->Bool
 | []=>true
 | p::r=>!CB ds p.2&&I5 ds r
def ln (i:Nat) (ao:Fw) (T:List (Nat×Nat)):List (Nat×Nat) :=
 match ao with
 | .load _ (.t x) _=>(i,x)::T
 | _=>T
def IM (anc:List Nat):List (Nat×Nat)->List (Nat×Nat)
 | []=>[]
 | p::r=>if CB anc p.1=true then IM anc r else p::IM anc r
def Fw.isFloat:Fw->Bool
 | .alloc _ _ | .brow .. | .blst .. => true
 | _=>false
def Fw.floatOk (s:St):Fw->Bool
 | .alloc _ _=>true
 | .brow _ _ K ps=>(ps.map s.opd).all AV.firm&&(K.ofs ((ps.map s.opd).map AV.cells)).isSome
 | .blst _ K ps=>(ps.map s.opd).all AV.firm&&(K.ofs ((ps.map s.opd).map AV.cells)).isSome
 | _=>false
def lq (s:St):List Nat->Bool
 | []=>true
 | d::r=>(match GS s.fr d with | .undef=>true | _=>false)&&lq s r
def lr (s:St) (T:List (Nat×Nat)):List (Nat×Fw)->Bool
 | []=>true
 | f::r=>f.2.floatOk s&&lq s f.2.dsts&&I5 f.2.dsts T&&lr s T r
noncomputable def dK {ρ:Type} (cal:Gi) (anc:List (List Nat)) (kn:St->Option ρ):DT->List (Nat×Nat)->St->Option ρ
 | .done,_,s=>kn s
 | .take i g ao r,T,s=>if (gOk s g&&I5 ao.dsts T&&ao.notSelf)=true then Ef cal (fun s'=>dK cal anc kn r (ln i ao T) s') s ao else none
 | .skip _ g d r,T,s=>if (AGY s g&&I5 d.toList T)=true then dK cal anc kn r T ⟨AAk d .void s.fr,s.st⟩ else none
 | .only i g ao e fl r,T,s=>if (gOk s g&&I5 ao.dsts T&&aK (anc.getD i []) (ao.touch s) s T&&lr s T fl&&(fl.all fun f=>aK (anc.getD f.1 []) [] s T)&&(!e||ao.floatOk s))=true then Ef cal (fun s'=>dK cal anc kn r (IM (anc.getD i []) T) s') s ao else none
 | .test c a b,T,s=>match GS s.fr c with
  | .bool t=>if t=true then dK cal anc kn a T (s.put c (.bool true)) else dK cal anc kn b T (s.put c (.bool false))
  | _=>none
 | .fork i ai ri j aj rj,T,s=>AAl
  (if (I5 ai.dsts T&&aK (anc.getD i []) (ai.touch s) s T)=true then Ef cal (fun s'=>dK cal anc kn ri (IM (anc.getD i []) T) s') s ai else none)
  (if (I5 aj.dsts T&&aK (anc.getD j []) (aj.touch s) s T)=true then Ef cal (fun s'=>dK cal anc kn rj (IM (anc.getD j []) T) s') s aj else none)
def AV.older1 (n:Nat):AV->AV
 | .row i=>if i<n then .row i else .undef
 | .eptr i j o=>if i<n then .eptr i j o else .undef
 | .ptr i o=>if i<n then .ptr i o else .undef
 | .agg _=>.undef
 | .tup _=>.undef
 | v=>v
def AV.older (n:Nat):AV->AV
 | .agg cs=>.agg (cs.map (AV.older1 n))
 | .tup _=>.undef
 | v=>v.older1 n
def AV.olderC (n:Nat):AV->AV
 | .row i=>if i<n then .row i else .undef
 | c=>c
def AX.older (n:Nat):AX->AX
 | .var cs=>.var (cs.map (AV.olderC n))
 | b=>b
def St.cut (s:St) (live:List Nat) (n:Nat):St:=⟨live.map fun t=>(t,(GS s.fr t).older n),(s.st.take n).map (AX.older n)⟩
def EF (s:St):List Nat->List (Nat×Nat)
 | []=>[]
 | t::r=>match GS s.fr t with
  | .row i=>(t,i)::EF s r
  | _=>EF s r
def St.home (s:St) (n t i:Nat):St :=
 match GS s.fr t with
 | .row k=>if n<=k then (match s.intoRow i (.row k) with
  | some x=>x.2.1.put t (.row i)
  | none=>s) else s
 | _=>s
def St.homes (n:Nat):List (Nat×Nat)->St->St
 | [],s=>s
 | p::r,s=>St.homes n r (s.home n p.1 p.2)
def St.cutH (s:St) (hs:List (Nat×Nat)) (live:List Nat) (n:Nat):St:=(St.homes n hs s).cut live n
inductive AG where
 | skip
 | region (ops:List Fw) (live:List Nat)
 | draw (anc:List (List Nat)) (t:DT) (live:List Nat)
 | seq (a b:AG)
 | seqc (live:List Nat) (a b:AG)
 | cond (c:Cr) (a b:AG)
 | block (id:Nat) (live:List Nat) (body:AG)
 | loop (live:List Nat) (body:AG)
 | exit (id:Nat)
 | ret
def Qc {ρ:Type}:Nat->((St->Option ρ)->St->Option ρ)->St->Option ρ
 | 0,_,_=>none
 | k+1,F,s=>F (fun s'=>Qc k F s') s
noncomputable def IH {ρ:Type} (cal:Gi) (k:Nat):AG->(kn kr:St->Option ρ)->(ke:Nat->St->Option ρ)->St->Option ρ
 | .skip,kn,_,_,s=>kn s
 | .region ops live,kn,_,_,s=>ot cal (fun s'=>kn ⟨live.map fun t=>(t,GS s'.fr t),s'.st⟩) s ops
 | .draw anc t live,kn,_,_,s=>dK cal anc (fun s'=>kn ⟨live.map fun t=>(t,GS s'.fr t),s'.st⟩) t [] s
 | .seqc live a b,kn,kr,ke,s=>IH cal k a (fun s'=>IH cal k b kn kr ke (s'.cutH (EF s live) live s.st.length)) kr ke s
 | .seq a b,kn,kr,ke,s=>IH cal k a (fun s'=>IH cal k b kn kr ke s') kr ke s
 | .cond c a b,kn,kr,ke,s=>match s.opd c with
  | .bool t=>if t=true then IH cal k a kn kr ke s else IH cal k b kn kr ke s
  | _=>none
 | .block id live body,kn,kr,ke,s=>IH cal k body (fun s'=>kn (s'.cutH (EF s live) live s.st.length)) kr (fun i s'=>if i=id then kn (s'.cutH (EF s live) live s.st.length) else ke i s') s
 | .loop live body,_,kr,ke,s=>Qc k (fun go s'=>IH cal k body (fun s''=>go (s''.cutH (EF s live) live s.st.length)) kr ke s') (s.cut live s.st.length)
 | .exit id,_,_,ke,s=>ke id s
 | .ret,_,kr,_,s=>kr s
structure Res where
 t:Nat
 cell:Bool
 K:Kd
structure BL where
 params:List PK
 res:List Res
 body:AG
def St.shutAll (s:St) (tk:List Nat):List Kd->List AV->Option (List AV×List Nat×St)
 | [],[]=>some ([],tk,s)
 | k::ks,v::vs=>match v with
  | .row i=>if CB tk i=true then none else match k with
   | .own _ _=>match s.st[i]? with
    | some (.rows t e xs)=>(s.shutAll (i::tk) ks vs).bind fun y=>some (.new t e xs::y.1,y.2)
    | _=>none
   | _=>(s.keep (.row i)).bind fun x=>(x.2.shutAll tk ks vs).bind fun y=>some (x.1::y.1,y.2)
  | .ptr i 0=>if CB tk i=true then none else match k with
   | .ref K=>match s.st[i]? with
    | some (.var cs)=>(QK K.leaves cs).bind fun cs'=>(s.shutAll (i::tk) ks vs).bind fun y=>some (.ref cs'::y.1,y.2)
    | _=>none
   | _=>none
  | v=>(v.norm k).bind fun a=>(s.shutAll tk ks vs).bind fun y=>some (a::y.1,y.2)
 | _,_=>none
def St.resCells (s:St) (r:Res):Option (List AV) :=
 if r.cell=true then (s.behind (GS s.fr r.t)).bind fun y=>some ((y.1.drop y.2).take r.K.sz)
 else if (AV.fits r.K (GS s.fr r.t)&&(GS s.fr r.t).full)=true then some (GS s.fr r.t).cells else none
def St.result (s:St) (tk:List Nat):List Res->Option (List AV×List Nat×St)
 | []=>some ([],tk,s)
 | r::rs=>(s.resCells r).bind fun cs=>(s.shutAll tk r.K.leaves cs).bind fun y=>(r.K.ofCells y.1).bind fun x=>(y.2.2.result y.2.1 rs).bind fun z=>some (r.K.av x::z.1,z.2)
def Kd.noRef:Kd->Bool
 | .pair a b=>a.noRef&&b.noRef
 | .ref _=>false
 | _=>true
def St.shutBoxes (s:St) (tk:List Nat):List (Nat×Kd)->Option (List AV×List Nat×St)
 | []=>some ([],tk,s)
 | (b,K)::bs=>match s.st[b]? with
  | some (.mrow t e xs)=>if Kd.own t e=K then (s.shutBoxes tk bs).bind fun z=>some (.new t e xs::z.1,z.2) else none
  | some (.var cs)=>if (K.noRef&&!K.isOwn)=true then (s.shutAll tk K.leaves cs).bind fun y=>(K.ofCells y.1).bind fun x=>(y.2.2.shutBoxes y.2.1 bs).bind fun z=>some (K.av x::z.1,z.2) else none
  | _=>none
def Eg:List PK->Nat->List (Nat×Kd)
 | [],_=>[]
 | .val _::r,j | .bor _::r,j | .mov _::r,j | .movS _::r,j | .cap _ _::r,j | .cap0 _::r,j=>Eg r j
 | .ptr K::r,j=>(j,K)::Eg r (j+1)
 | .mut K::r,j=>rV K.owns j++Eg r (j+K.owns.length)
def BL.outs (fn:BL):List Kd:=fn.res.map (·.K)++(Eg fn.params 0).map (·.2)
def AH (fn:BL) (s:St):Option (RT fn.outs) :=
 (s.result (List.range (Eg fn.params 0).length) fn.res).bind fun y=>(y.2.2.shutBoxes y.2.1 (Eg fn.params 0)).bind fun b=>Cp fn.outs (y.1++b.1)
def S8:Nat->List AV->List (Nat×AV)
 | _,[]=>[]
 | i,v::vs=>(i,v)::S8 (i+1) vs
noncomputable def ACN (cal:Gi) (k:Nat) (fn:BL) (args bs:List AV):Option (RT fn.outs) :=
 IH cal k fn.body (AH fn) (AH fn) (fun _ _=>none) ⟨S8 0 (Di (Fx bs) args),Bo bs args⟩
noncomputable def lu (fns:Nat->Option BL) (prims:Gi):Nat->Gi
 | 0,_,_,_=>none
 | k+1,f,args,bs=>match fns f with
  | some fn=>if args.length=fn.params.length/\bs.length=(Eg fn.params 0).length then (ACN (lu fns prims k) k fn args bs).map (EC fn.outs) else none
  | none=>prims f args bs

abbrev HP:=Nat->Option Obj
def HP.le (H H':HP):Prop:=∀ b o,H b=some o->H' b=some o
theorem HP.le_refl (H:HP):H.le H:=fun _ _ h=>h
theorem HP.le_trans {A B C:HP} (h:A.le B) (g:B.le C):A.le C:=fun b o e=>g b o (h b o e)
def dN {α:Type} (R:α->List Value->Prop) (sz:Nat) (H:HP) (xs:List α) (v:Value):Prop :=
 ∃ a cap,v=.slice a xs.length cap/\xs.length<=cap/\(xs=[]\/∃ b off c el fz,a=some ⟨b,off,none⟩/\H b=some (.cells c el fz) /\
  ∀ j x,xs[j]? = some x->∃ cs,R x cs/\cs.length=sz/\∀ i u,cs[i]? = some u->c[off+j*sz+i]? = some u)
def AAm (H:HP) (f:Nat) (R:List Value->Prop) (v:Value):Prop :=
 ∃ b o c el fz,v=.func (.func f) #[] #[.pointer (some ⟨b,o,none⟩)]/\H b=some (.cells c el fz)/\∃ vs,R vs/\∀ (j:Nat) u,vs[j]? = some u->c[o+j]? = some u
theorem oz {H H':HP} (hH:H.le H') {f:Nat} {R R':List Value->Prop} {v:Value} (hR:∀ cs,R cs->R' cs) (h:AAm H f R v):AAm H' f R' v:=by
 obtain ⟨b,o,c,el,fz,e,hb,vs,hv,hc⟩:=h
 exact ⟨b,o,c,el,fz,e,hH _ _ hb,vs,hR _ hv,hc⟩
def Gj (H:HP):(K:Kd)->K.T->List Value->Prop
 | .int k,n,cs=>cs=[.int k n]
 | .bool,b,cs=>cs=[.bool b]
 | .str,s,cs=>cs=[.string s]
 | .slice e,xs,cs=>∃ v,cs=[v]/\dN (Gj H e) e.sz H xs v
 | .pair a b,x,cs=>∃ c1 c2,cs=c1++c2/\Gj H a x.1 c1/\Gj H b x.2 c2
 | .own _ _,_,_=>False
 | .ref _,_,_=>False
 | .fun f,_,cs=>cs=[.func (.func f) #[] #[]]
 | .clo f K,x,cs=>∃ v,cs=[v]/\AAm H f (Gj H K x) v
theorem Gj.length {H:HP}:∀ {K:Kd} {x:K.T} {cs:List Value},Gj H K x cs->cs.length=K.sz
 | .int _,_,_,h=>by cases h; rfl
 | .bool,_,_,h=>by cases h; rfl
 | .str,_,_,h=>by cases h; rfl
 | .slice _,_,_,⟨_,h,_⟩=>by cases h; rfl
 | .pair _ _,_,_,⟨_,_,h,h1,h2⟩=>by subst h; simp [Kd.sz,Gj.length h1,Gj.length h2]
 | .own _ _,_,_,h=>h.elim
 | .ref _,_,_,h=>h.elim
 | .fun _,_,_,h=>by cases h; rfl
 | .clo _ _,_,_,⟨_,h,_⟩=>by cases h; rfl
theorem Po {α:Type} {R R':α->List Value->Prop} {sz:Nat} {H H':HP} {xs:List α} {v:Value} (hR:∀ x cs,R x cs->R' x cs) (hH:H.le H')
  (h:dN R sz H xs v):dN R' sz H' xs v:=by
 obtain ⟨a,cap,e,hc,h⟩:=h
 refine ⟨a,cap,e,hc,?_⟩
 rcases h with h | ⟨b,off,c,el,fz,ea,hb,hr⟩
 ·exact .inl h
 ·refine .inr ⟨b,off,c,el,fz,ea,hH _ _ hb,fun j x hx=>?_⟩
  obtain ⟨cs,h1,h2,h3⟩:=hr j x hx
  exact ⟨cs,hR _ _ h1,h2,h3⟩
theorem Gj.mono {H H':HP} (hH:H.le H'):∀ {K:Kd} {x:K.T} {cs:List Value},Gj H K x cs->Gj H' K x cs
 | .int _,_,_,h=>h
 | .bool,_,_,h=>h
 | .str,_,_,h=>h
 | .slice _,_,_,⟨v,h,hr⟩=>⟨v,h,Po (fun _ _ h=>Gj.mono hH h) hH hr⟩
 | .pair _ _,_,_,⟨c1,c2,h,h1,h2⟩=>⟨c1,c2,h,Gj.mono hH h1,Gj.mono hH h2⟩
 | .own _ _,_,_,h=>h.elim
 | .ref _,_,_,h=>h.elim
 | .fun _,_,_,h=>h
 | .clo _ _,_,_,⟨v,h,hr⟩=>⟨v,h,oz hH (fun _ h=>Gj.mono hH h) hr⟩
def VF (H:HP):AV->Value->Prop
 | .int k n,v=>v=.int k n
 | .bool b,v=>v=.bool b
 | .str s,v=>v=.string s
 | .nil,v=>v=.slice none 0 0
 | .lst K xs,v=>dN (Gj H K) K.sz H xs v
 | .fn f caps,v=>caps=[]/\v=.func (.func f) #[] #[]
 | .clo f K x,v=>AAm H f (Gj H K x) v
 | _,_=>False
theorem VF.mono {H H':HP} (hH:H.le H') {a:AV} {v:Value} (h:VF H a v):VF H' a v:=by
 cases a<;>simp only [VF] at h ⊢ <;> first | exact h | exact Po (fun _ _ h=>Gj.mono hH h) hH h | exact oz hH (fun _ h=>Gj.mono hH h) h
def Jz (H:HP):List AV->List Value->Prop
 | [],vs=>vs=[]
 | a::aw,vs=>∃ v r,vs=v::r/\VF H a v/\Jz H aw r
theorem Jz.mono {H H':HP} (hH:H.le H'):∀ {aw:List AV} {vs:List Value},Jz H aw vs->Jz H' aw vs
 | [],_,h=>h
 | _::_,_,⟨v,r,e,h,hr⟩=>⟨v,r,e,VF.mono hH h,Jz.mono hH hr⟩
theorem Jz.length {H:HP}:∀ {aw:List AV} {vs:List Value},Jz H aw vs->vs.length=aw.length
 | [],_,h=>by cases h; rfl
 | _::_,_,⟨v,r,e,_,hr⟩=>by subst e; simp [Jz.length hr]
theorem Jz.append {H:HP}:∀ {aw bs:List AV} {vs ws:List Value},Jz H aw vs->Jz H bs ws->Jz H (aw++bs) (vs++ws)
 | [],_,_,_,h,g=>by cases h; exact g
 | _::_,_,_,_,⟨v,r,e,h,hr⟩,g=>by subst e; exact ⟨v,_,rfl,h,Jz.append hr g⟩
theorem Jz.get {H:HP}:∀ {aw:List AV} {vs:List Value},Jz H aw vs->∀ (j:Nat) (a:AV),aw[j]? = some a->∃ v,vs[j]? = some v/\VF H a v
 | [],_,_,j,a,hj=>by simp at hj
 | x::aw,_,⟨v,r,e,h,hr⟩,0,a,hj=>by subst e; simp at hj; subst hj; exact ⟨v,rfl,h⟩
 | x::aw,_,⟨v,r,e,h,hr⟩,j+1,a,hj=>by subst e; simp at hj; simpa using Jz.get hr j a hj
theorem Jz.drop {H:HP}:∀ {aw:List AV} {vs:List Value} (n:Nat),Jz H aw vs->Jz H (aw.drop n) (vs.drop n)
 | aw,vs,0,h=>by simpa using h
 | [],vs,n+1,h=>by cases h; simp [Jz]
 | _::_,_,n+1,⟨v,r,e,h,hr⟩=>by subst e; simpa using Jz.drop n hr
theorem Jz.take {H:HP}:∀ {aw:List AV} {vs:List Value} (n:Nat),Jz H aw vs->Jz H (aw.take n) (vs.take n)
 | aw,vs,0,h=>by simp [Jz]
 | [],vs,n+1,h=>by cases h; simp [Jz]
 | _::_,_,n+1,⟨v,r,e,h,hr⟩=>by subst e; exact ⟨v,_,by simp,h,Jz.take n hr⟩
theorem Jz.set {H:HP}:∀ {aw:List AV} {vs:List Value} (n:Nat) {a:AV} {v:Value},Jz H aw vs->VF H a v->Jz H (aw.set n a) (vs.set n v)
 | [],vs,n,a,v,h,_=>by cases h; simp [Jz]
 | _::_,_,0,a,v,⟨v0,r,e,_,hr⟩,g=>by subst e; exact ⟨v,r,rfl,g,hr⟩
 | _::_,_,n+1,a,v,⟨v0,r,e,h,hr⟩,g=>by subst e; exact ⟨v0,_,rfl,h,Jz.set n hr g⟩
theorem Jz.of_rep {H:HP}:∀ {K:Kd} {x:K.T} {cs:List Value},Gj H K x cs->Jz H (K.enc x) cs
 | .int _,_,_,h=>⟨_,_,h,rfl,rfl⟩
 | .bool,_,_,h=>⟨_,_,h,rfl,rfl⟩
 | .str,_,_,h=>⟨_,_,h,rfl,rfl⟩
 | .slice _,_,_,⟨v,h,hr⟩=>⟨_,_,h,hr,rfl⟩
 | .pair _ _,_,_,⟨_,_,h,h1,h2⟩=>by subst h; exact Jz.append (Jz.of_rep h1) (Jz.of_rep h2)
 | .own _ _,_,_,h=>h.elim
 | .ref _,_,_,h=>h.elim
 | .fun _,_,_,h=>⟨_,_,h,⟨rfl,rfl⟩,rfl⟩
 | .clo _ _,_,_,⟨v,h,hr⟩=>⟨_,_,h,hr,rfl⟩
theorem YI {α:Type} {R:α->List Value->Prop} {sz:Nat} {H:HP}:dN R sz H ([]:List α) (.slice none 0 0):=⟨none,0,rfl,Nat.le_refl _,.inl rfl⟩
theorem IN {H:HP}:∀ (K:Kd) {aw:List AV} {vs:List Value} {x:K.T} {r:List AV},Jz H aw vs->K.dec aw=some (x,r) ->
  ∃ c1 c2,vs=c1++c2/\Gj H K x c1/\Jz H r c2:=by
 intro K
 induction K with
 | int k =>
  intro aw vs x r h hd
  cases aw with
  | nil=>simp [Kd.dec] at hd
  | cons a aw =>
   obtain ⟨v,w,e,h1,h2⟩:=h
   cases a<;>simp [Kd.dec] at hd
   obtain ⟨rfl,rfl,rfl⟩:=hd
   simp only [VF] at h1
   exact ⟨[v],w,by simp [e],by simp [Gj,h1],h2⟩
 | bool =>
  intro aw vs x r h hd
  cases aw with
  | nil=>simp [Kd.dec] at hd
  | cons a aw =>
   obtain ⟨v,w,e,h1,h2⟩:=h
   cases a<;>simp [Kd.dec] at hd
   obtain ⟨rfl,rfl⟩:=hd
   simp only [VF] at h1
   exact ⟨[v],w,by simp [e],by simp [Gj,h1],h2⟩
 | str =>
  intro aw vs x r h hd
  cases aw with
  | nil=>simp [Kd.dec] at hd
  | cons a aw =>
   obtain ⟨v,w,e,h1,h2⟩:=h
   cases a<;>simp [Kd.dec] at hd
   obtain ⟨rfl,rfl⟩:=hd
   simp only [VF] at h1
   exact ⟨[v],w,by simp [e],by simp [Gj,h1],h2⟩
 | slice e ih =>
  intro aw vs x r h hd
  cases aw with
  | nil=>simp [Kd.dec] at hd
  | cons a aw =>
   obtain ⟨v,w,ev,h1,h2⟩:=h
   cases a with
   | nil =>
    simp only [Kd.dec,BT,Prod.mk.injEq] at hd
    obtain ⟨rfl,rfl⟩:=hd
    simp only [VF] at h1
    exact ⟨[v],w,by simp [ev],⟨v,rfl,by rw [h1]; exact YI⟩,h2⟩
   | lst K xs =>
    simp only [Kd.dec] at hd
    split at hd
    ·rename_i hk
     subst hk
     simp only [BT,Prod.mk.injEq] at hd
     obtain ⟨rfl,rfl⟩:=hd
     exact ⟨[v],w,by simp [ev],⟨v,rfl,h1⟩,h2⟩
    ·cases hd
   | _=>simp [Kd.dec] at hd
 | pair a b iha ihb =>
  intro aw vs x r h hd
  simp only [Kd.dec] at hd
  cases hx:a.dec aw with
  | none=>simp [hx] at hd
  | some xa =>
   obtain ⟨xa,ra⟩:=xa
   simp only [hx,AA] at hd
   cases hy:b.dec ra with
   | none=>simp [hy] at hd
   | some yb =>
    obtain ⟨yb,rb⟩:=yb
    simp only [hy,AA,BT,Prod.mk.injEq] at hd
    obtain ⟨rfl,rfl⟩:=hd
    obtain ⟨c1,c2,e1,r1,h1⟩:=iha h hx
    obtain ⟨d1,d2,e2,r2,h2⟩:=ihb h1 hy
    exact ⟨c1++d1,d2,by simp [e1,e2],⟨c1,d1,rfl,r1,r2⟩,h2⟩
 | own t e ih =>
  intro aw vs x r h hd
  cases aw with
  | nil=>simp [Kd.dec] at hd
  | cons a aw =>
   obtain ⟨v,w,ev,h1,h2⟩:=h
   cases a<;>first | exact h1.elim | (simp [Kd.dec] at hd)
 | ref K ih =>
  intro aw vs x r h hd
  cases aw with
  | nil=>simp [Kd.dec] at hd
  | cons a aw =>
   obtain ⟨v,w,ev,h1,h2⟩:=h
   cases a<;>first | exact h1.elim | (simp [Kd.dec] at hd)
 | «fun» f =>
  intro aw vs x r h hd
  cases aw with
  | nil=>simp [Kd.dec] at hd
  | cons a aw =>
   obtain ⟨v,w,ev,h1,h2⟩:=h
   cases a with
   | fn f' caps =>
    cases caps with
    | nil =>
     simp only [Kd.dec] at hd
     split at hd
     ·rename_i e
      subst e
      cases hd
      obtain ⟨_,rfl⟩:=h1
      exact ⟨[_],w,by simp [ev],rfl,h2⟩
     ·cases hd
    | cons _ _=>simp [Kd.dec] at hd
   | _=>simp [Kd.dec] at hd
 | clo f K ih =>
  intro aw vs x r h hd
  cases aw with
  | nil=>simp [Kd.dec] at hd
  | cons a aw =>
   obtain ⟨v,w,ev,h1,h2⟩:=h
   cases a with
   | clo f' K' y =>
    simp only [Kd.dec] at hd
    split at hd
    ·rename_i e
     subst e
     split at hd
     ·rename_i hk
      subst hk
      simp only [BT,Prod.mk.injEq] at hd
      obtain ⟨rfl,rfl⟩:=hd
      exact ⟨[v],w,by simp [ev],⟨v,rfl,h1⟩,h2⟩
     ·cases hd
    ·cases hd
   | _=>simp [Kd.dec] at hd

abbrev CQ:=Nat->Value
def AQ (st:List AX) (id:Nat):Option (Kd×Nat) :=
 match st[id]? with
 | some (.rows _ K xs)=>some (K,xs.length)
 | some (.frz K xs)=>some (K,xs.length)
 | some (.mrow _ K xs)=>some (K,xs.length)
 | some (.byt _ xs)=>some (.int .u8,xs.length)
 | _=>none
def AX.hold:AX->Bool
 | .var _=>true
 | .mrow _ _ _=>true
 | _=>false
def Ae (st:List AX) (id:Nat):Bool :=
 match st[id]? with
 | some b=>b.hold
 | _=>false
def An (st:List AX) (id:Nat):Bool :=
 match st[id]? with
 | some (.var _)=>true
 | _=>false
def Az {α β:Type} (R:α->β->Prop):List α->List β->Prop
 | [],vs=>vs=[]
 | a::aw,vs=>∃ v r,vs=v::r/\R a v/\Az R aw r
theorem Az.imp {α β:Type} {R S:α->β->Prop} (h:∀ a v,R a v->S a v):∀ {aw:List α} {vs:List β},Az R aw vs->Az S aw vs
 | [],_,e=>e
 | _::_,_,⟨v,r,e,g,hr⟩=>⟨v,r,e,h _ _ g,Az.imp h hr⟩
theorem Az.impM {α β:Type} {R S:α->β->Prop}:∀ {aw:List α} {vs:List β},(∀ a∈aw,∀ v,R a v->S a v)->Az R aw vs->Az S aw vs
 | [],_,_,e=>e
 | a::aw,_,h,⟨v,r,e,g,hr⟩=>⟨v,r,e,h a (by simp) _ g,Az.impM (fun b hb=>h b (by simp [hb])) hr⟩
theorem Az.map {α β:Type} {R S:α->β->Prop} {f:α->α} (h:∀ a v,R a v->S (f a) v):∀ {aw:List α} {vs:List β},Az R aw vs->Az S (aw.map f) vs
 | [],_,e=>e
 | _::_,_,⟨v,r,e,g,hr⟩=>⟨v,r,e,h _ _ g,Az.map h hr⟩
theorem Az.length {α β:Type} {R:α->β->Prop}:∀ {aw:List α} {vs:List β},Az R aw vs->vs.length=aw.length
 | [],_,h=>by cases h; rfl
 | _::_,_,⟨v,r,e,_,hr⟩=>by subst e; simp [Az.length hr]
theorem Az.get {α β:Type} {R:α->β->Prop}:∀ {aw:List α} {vs:List β},Az R aw vs->∀ (j:Nat) (a:α),aw[j]? = some a->∃ v,vs[j]? = some v/\R a v
 | [],_,_,j,a,hj=>by simp at hj
 | x::aw,_,⟨v,r,e,h,hr⟩,0,a,hj=>by subst e; simp at hj; subst hj; exact ⟨v,rfl,h⟩
 | x::aw,_,⟨v,r,e,h,hr⟩,j+1,a,hj=>by subst e; simp at hj; simpa using Az.get hr j a hj
theorem VR {α β:Type} {R:α->β->Prop}:∀ {aw:List α} {vs:List β},vs.length=aw.length->(∀ (j:Nat) (a:α) (v:β),aw[j]? = some a->vs[j]? = some v->R a v)->Az R aw vs
 | [],[],_,_=>rfl
 | [],_::_,h,_=>by simp at h
 | _::_,[],h,_=>by simp at h
 | a::aw,v::vs,h,g=>⟨v,vs,rfl,g 0 a v rfl rfl,VR (by simpa using h) fun j a v h1 h2=>g (j+1) a v (by simpa using h1) (by simpa using h2)⟩
theorem Az.mem {α β:Type} {R:α->β->Prop}:∀ {aw:List α} {vs:List β},Az R aw vs->∀ (j:Nat) (v:β),vs[j]? = some v->∃ a,aw[j]? = some a/\R a v
 | [],_,h,j,v,hj=>by cases h; simp at hj
 | x::aw,_,⟨v',r,e,h,hr⟩,0,v,hj=>by subst e; simp at hj; subst hj; exact ⟨x,rfl,h⟩
 | x::aw,_,⟨v',r,e,h,hr⟩,j+1,v,hj=>by subst e; simp at hj; simpa using Az.mem hr j v hj
theorem Az.at {α β:Type} {R:α->β->Prop} {aw:List α} {vs:List β} (h:Az R aw vs) {j:Nat} {a:α} {v:β} (ha:aw[j]? = some a) (hv:vs[j]? = some v):R a v:=by
 obtain ⟨v',h1,h2⟩:=h.get j a ha
 rw [hv] at h1
 cases h1
 exact h2
theorem Az.drop {α β:Type} {R:α->β->Prop}:∀ {aw:List α} {vs:List β} (n:Nat),Az R aw vs->Az R (aw.drop n) (vs.drop n)
 | aw,vs,0,h=>by simpa using h
 | [],vs,n+1,h=>by cases h; simp [Az]
 | _::_,_,n+1,⟨v,r,e,h,hr⟩=>by subst e; simpa using Az.drop n hr
theorem Az.take {α β:Type} {R:α->β->Prop}:∀ {aw:List α} {vs:List β} (n:Nat),Az R aw vs->Az R (aw.take n) (vs.take n)
 | aw,vs,0,h=>by simp [Az]
 | [],vs,n+1,h=>by cases h; simp [Az]
 | _::_,_,n+1,⟨v,r,e,h,hr⟩=>by subst e; exact ⟨v,_,by simp,h,Az.take n hr⟩
theorem Az.append {α β:Type} {R:α->β->Prop}:∀ {aw bs:List α} {vs ws:List β},Az R aw vs->Az R bs ws->Az R (aw++bs) (vs++ws)
 | [],_,_,_,h,g=>by cases h; exact g
 | _::_,_,_,_,⟨v,r,e,h,hr⟩,g=>by subst e; exact ⟨v,_,rfl,h,Az.append hr g⟩
theorem JK {H:HP}:∀ {aw:List AV} {vs:List Value},Jz H aw vs↔Az (VF H) aw vs
 | [],_=>Iff.rfl
 | _::_,_=>⟨fun ⟨v,r,e,h,hr⟩=>⟨v,r,e,h,JK.1 hr⟩,fun ⟨v,r,e,h,hr⟩=>⟨v,r,e,h,JK.2 hr⟩⟩
def VC (H:HP) (φ:CQ) (st:List AX):AV->Value->Prop
 | .undef,_=>True
 | .void,v=>v=Go.undef
 | .was _,_=>True
 | .self _,_=>True
 | .row id,v=>v=φ id/\(AQ st id).isSome=true
 | .ptr id off,v=>An st id=true/\∃ b,φ id=.pointer (some ⟨b,0,none⟩)/\v=.pointer (some ⟨b,off,none⟩)
 | .eptr id i off,v=>∃ b n cap K,AQ st id=some (K,n)/\i<n/\φ id=.slice (some ⟨b,0,none⟩) n cap/\v=.pointer (some ⟨b,i*K.sz+off,none⟩)
 | .fptr cs off,v=>∃ b o c el fz,v=.pointer (some ⟨b,o+off,none⟩)/\H b=some (.cells c el fz)/\∃ vs,Jz H cs vs/\∀ j u,vs[j]? = some u->c[o+j]? = some u
 | a,v=>VF H a v
def VE (H:HP):AV->Value->Prop
 | .agg cs,v=>∃ arr,v=.agg arr/\Jz H cs arr.toList
 | a,v=>VF H a v
def VB (H:HP) (φ:CQ) (st:List AX):AV->Value->Prop
 | .agg cs,v=>∃ arr,v=.agg arr/\Az (VC H φ st) cs arr.toList
 | a,v=>VC H φ st a v
def VA (H:HP) (φ:CQ) (st:List AX):AV->Value->Prop
 | .tup vs,v=>∃ arr,v=.tuple arr/\Az (VB H φ st) vs arr.toList
 | a,v=>VB H φ st a v
def VW (H:HP) (p:Value) (el:TypeId):AV->Value->Prop
 | .row _,_=>True
 | .self T,v=>el=T/\(v=.pointer none\/v=p)
 | .was _,_=>True
 | .undef,_=>True
 | a,v=>VF H a v
def HR (H:HP) (φ:CQ) (st:List AX) (fr:List (Nat×AV)) (tmps:Array Value):Prop :=
 ∀ t,VA H φ st (GS fr t) (tmps.getD t undef)
def ED:Value->Option Nat
 | .pointer (some a)=>some a.block
 | .slice (some a) _ _=>some a.block
 | _=>none
def AX.live:AX->Bool
 | .var _=>true
 | .rows _ _ _=>true
 | .mrow _ _ _=>true
 | .byt _ _=>true
 | _=>false
def EE (H:HP) (K:Kd) (xs:List K.T) (flat:List Value):Prop :=
 ∀ j x,xs[j]? = some x->Gj H K x ((flat.drop (j*K.sz)).take K.sz)
def zR (w:World) (t:TypeId) (v:Value) (xs:List Int):Prop :=
 ∃ (g cap:Nat) (cur:Array Value) (fz:Nat×Nat),v=.slice (some ⟨g,0,none⟩) xs.length cap/\w.heap[g]? = some (.cells cur t fz)/\xs.length<=fz.1/\xs.length<=cap/\∀ (j:Nat) (x:Int),xs[j]? = some x->cur[j]? = some (Value.int .u8 x)
def NN (H:HP) (w:World) (v:Value):AX->Prop
 | .var cs=>∃ b c el,v=.pointer (some ⟨b,0,none⟩)/\w.heap[b]? = some (.cells c el (0,0))/\Az (VW H v el) cs c.toList
 | .rows t K xs=>∃ flat,w.ownsRow 0 t K.sz v xs.length flat/\EE H K xs flat
 | .mrow t K xs=>∃ flat,w.ownsRow 0 t K.sz v xs.length flat/\EE H K xs flat
 | .byt t xs=>zR w t v xs
 | .frz K xs=>dN (Gj H K) K.sz H xs v/\∀ a n cap,v=.slice (some a) n cap->a.off=0/\a.spot=none
 | .dead=>True
def AHL:List (Nat×Array Value):=[(1,(Go.Lib.pow10Tab.map fun z=>Value.int .u64 z).toArray)]
def zS (H:HP):Prop:=∀ p∈AHL,∃ el fz,H p.1=some (.cells p.2 el fz)
theorem zS.le {H H':HP} (h:zS H) (hle:H.le H'):zS H':=fun p hp=>by
 obtain ⟨el,fz,e⟩:=h p hp
 exact ⟨el,fz,hle _ _ e⟩
structure SR (H:HP) (φ:CQ) (st:List AX) (w:World):Prop where
 hp:∀ b o,H b=some o->w.heap[b]? = some o
 box:∀ id bx,st[id]? = some bx->NN H w (φ id) bx
 sep:∀ i j bi bj,st[i]? = some bi->st[j]? = some bj->bi.live=true->bj.live=true->i≠j->∀ b,ED (φ i)=some b->ED (φ j)≠some b
 out:∀ i bi,st[i]? = some bi->bi.live=true->∀ b,ED (φ i)=some b->H b=none
 cell:∀ id cs,st[id]? = some (.var cs)->∀ (o i:Nat),cs[o]? = some (AV.row i)->(AQ st i).isSome=true/\∃ b,φ id=.pointer (some ⟨b,0,none⟩)/\w.cell? ⟨b,o,none⟩=some (φ i)
 tb:zS H
def CD (φ:CQ) (st:List AX) (φ':CQ) (st':List AX) (x:Option Nat):Prop :=
 ∀ id,some id≠x->((AQ st id).isSome=true\/An st id=true)->φ' id=φ id/\AQ st' id=AQ st id/\An st' id=An st id/\Ae st' id=Ae st id
theorem CD.refl (φ:CQ) (st:List AX) (x:Option Nat):CD φ st φ st x:=fun _ _ _=>⟨rfl,rfl,rfl,rfl⟩
theorem ADu {st:List AX} {id:Nat} (h:Ae st id=true):(AQ st id).isSome=true\/An st id=true:=by
 unfold Ae at h
 unfold AQ An
 split at h
 ·rename_i b e
  rw [e]
  cases b<;>first | exact .inl rfl | exact .inr rfl | cases h
 ·cases h
theorem CD.hold {φ φ':CQ} {st st':List AX} (h:CD φ st φ' st' none) (id:Nat) (hv:Ae st id=true):φ' id=φ id/\Ae st' id=true/\An st' id=An st id:=by
 obtain ⟨k1,_,k3,k4⟩:=h id (by simp) (ADu hv)
 exact ⟨k1,k4.trans hv,k3⟩
theorem CD.trans {φ φ' φ'':CQ} {st st' st'':List AX} (h:CD φ st φ' st' none) (g:CD φ' st' φ'' st'' none):CD φ st φ'' st'' none:=by
 intro id hx hd
 obtain ⟨h1,h2,h3,h4⟩:=h id hx hd
 obtain ⟨g1,g2,g3,g4⟩:=g id hx (by rw [h2,h3]; exact hd)
 exact ⟨g1.trans h1,g2.trans h2,g3.trans h3,g4.trans h4⟩
theorem VC.mono {H H':HP} {φ φ':CQ} {st st':List AX} (hH:H.le H') (hk:CD φ st φ' st' none) {a:AV} {v:Value} (h:VC H φ st a v):VC H' φ' st' a v:=by
 cases a with
 | undef=>trivial
 | void=>exact h
 | was id=>trivial
 | row id =>
  obtain ⟨e,hs⟩:=h
  obtain ⟨k1,k2,_⟩:=hk id (by simp) (.inl hs)
  exact ⟨by rw [k1]; exact e,by rw [k2]; exact hs⟩
 | ptr id off =>
  obtain ⟨hs,b,e1,e2⟩:=h
  obtain ⟨k1,_,k3,_⟩:=hk id (by simp) (.inr hs)
  exact ⟨by rw [k3]; exact hs,b,by rw [k1]; exact e1,e2⟩
 | eptr id i off =>
  obtain ⟨b,n,cap,K,hs,hi,e1,e2⟩:=h
  obtain ⟨k1,k2,_⟩:=hk id (by simp) (.inl (by simp [hs]))
  exact ⟨b,n,cap,K,by rw [k2]; exact hs,hi,by rw [k1]; exact e1,e2⟩
 | fptr cs off =>
  obtain ⟨b,o,c,el,fz,e,hb,vs,h1,h2⟩:=h
  exact ⟨b,o,c,el,fz,e,hH _ _ hb,vs,h1.mono hH,h2⟩
 | fn f caps=>exact VF.mono hH (a:=.fn f caps) h
 | clo f K x=>exact VF.mono hH (a:=.clo f K x) h
 | agg cs=>exact h.elim
 | tup vs=>exact h.elim
 | new t K xs=>exact h.elim
 | ref cs=>exact h.elim
 | self T=>trivial
 | int k n=>exact VF.mono hH (a:=.int k n) h
 | bool b=>exact VF.mono hH (a:=.bool b) h
 | str s=>exact VF.mono hH (a:=.str s) h
 | nil=>exact VF.mono hH (a:=.nil) h
 | lst K xs=>exact VF.mono hH (a:=.lst K xs) h
theorem VE.cases {H:HP} {a:AV} {v:Value} (h:VE H a v):(∃ cs arr,a=.agg cs/\v=.agg arr/\Jz H cs arr.toList)\/VF H a v:=by
 cases a<;>first | exact .inr h | (obtain ⟨arr,e,h⟩:=h; exact .inl ⟨_,arr,rfl,e,h⟩)
theorem VE.of_VF {H:HP} {a:AV} {v:Value} (h:VF H a v):VE H a v:=by
 cases a<;>first | exact h | exact (h:False).elim
theorem VE.mono {H H':HP} (hH:H.le H') {a:AV} {v:Value} (h:VE H a v):VE H' a v:=by
 rcases h.cases with ⟨cs,arr,rfl,e,h⟩ | h
 ·exact ⟨arr,e,h.mono hH⟩
 ·exact .of_VF (h.mono hH)
theorem VA.cases {H:HP} {φ:CQ} {st:List AX} {a:AV} {v:Value} (h:VA H φ st a v) :
  (∃ cs arr,a=.agg cs/\v=.agg arr/\Az (VC H φ st) cs arr.toList)\/(∃ vs arr,a=.tup vs/\v=.tuple arr/\Az (VB H φ st) vs arr.toList)\/VC H φ st a v:=by
 cases a<;>first | exact .inr (.inr h) | (obtain ⟨arr,e,h⟩:=h; first | exact .inl ⟨_,arr,rfl,e,h⟩ | exact .inr (.inl ⟨_,arr,rfl,e,h⟩))
theorem VB.cases {H:HP} {φ:CQ} {st:List AX} {a:AV} {v:Value} (h:VB H φ st a v) :
  (∃ cs arr,a=.agg cs/\v=.agg arr/\Az (VC H φ st) cs arr.toList)\/VC H φ st a v:=by
 cases a<;>first | exact .inr h | (obtain ⟨arr,e,h⟩:=h; exact .inl ⟨_,arr,rfl,e,h⟩)
theorem VB.of_VC {H:HP} {φ:CQ} {st:List AX} {a:AV} {v:Value} (h:VC H φ st a v):VB H φ st a v:=by
 cases a<;>first | exact h | exact (h:False).elim
theorem VB.mono {H H':HP} {φ φ':CQ} {st st':List AX} (hH:H.le H') (hk:CD φ st φ' st' none) {a:AV} {v:Value} (h:VB H φ st a v):VB H' φ' st' a v:=by
 rcases h.cases with ⟨cs,arr,rfl,e,h⟩ | h
 ·exact ⟨arr,e,h.imp fun _ _ h=>h.mono hH hk⟩
 ·exact .of_VC (h.mono hH hk)
theorem VA.of_VB {H:HP} {φ:CQ} {st:List AX} {a:AV} {v:Value} (h:VB H φ st a v):VA H φ st a v:=by
 cases a<;>first | exact h | exact (h:False).elim
theorem VA.of_VC {H:HP} {φ:CQ} {st:List AX} {a:AV} {v:Value} (h:VC H φ st a v):VA H φ st a v:=by
 cases a<;>first | exact h | exact (h:False).elim
theorem VA.mono {H H':HP} {φ φ':CQ} {st st':List AX} (hH:H.le H') (hk:CD φ st φ' st' none) {a:AV} {v:Value} (h:VA H φ st a v):VA H' φ' st' a v:=by
 rcases h.cases with ⟨cs,arr,rfl,e,h⟩ | ⟨vs,arr,rfl,e,h⟩ | h
 ·exact ⟨arr,e,h.imp fun _ _ h=>h.mono hH hk⟩
 ·exact ⟨arr,e,h.imp fun _ _ h=>h.mono hH hk⟩
 ·exact .of_VC (h.mono hH hk)
theorem HR.mono {H H':HP} {φ φ':CQ} {st st':List AX} (hH:H.le H') (hk:CD φ st φ' st' none) {fr:List (Nat×AV)} {tmps:Array Value}
  (h:HR H φ st fr tmps):HR H' φ' st' fr tmps:=fun t=>(h t).mono hH hk
theorem VC.of_VF {H:HP} {φ:CQ} {st:List AX} {a:AV} {v:Value} (h:VF H a v):VC H φ st a v:=by
 cases a<;>first | exact h | exact (h:False).elim
theorem VA.of_VF {H:HP} {φ:CQ} {st:List AX} {a:AV} {v:Value} (h:VF H a v):VA H φ st a v:=by
 cases a<;>first | exact h | exact (h:False).elim
theorem VA.of_VE {H:HP} {φ:CQ} {st:List AX} {a:AV} {v:Value} (h:VE H a v):VA H φ st a v:=by
 rcases h.cases with ⟨cs,arr,rfl,e,h⟩ | h
 ·exact ⟨arr,e,(JK.1 h).imp fun _ _ h=>VC.of_VF h⟩
 ·exact VA.of_VF h
theorem VC.solid {H:HP} {φ:CQ} {st:List AX} {a:AV} {v:Value} (hs:a.solid=true) (h:VC H φ st a v):VF H a v:=by
 cases a<;>first | exact h | cases hs
theorem VCs.solid {H:HP} {φ:CQ} {st:List AX} {aw:List AV} {vs:List Value} (hs:aw.all AV.solid=true) (h:Az (VC H φ st) aw vs):Jz H aw vs :=
 JK.2 (h.impM fun a ha _ g=>VC.solid (Bp.1 hs a ha) g)
theorem HR.put {H:HP} {φ:CQ} {st:List AX} {fr:List (Nat×AV)} {tmps:Array Value} (h:HR H φ st fr tmps) {d:Nat} (hd:d<tmps.size)
  {a:AV} {v:Value} (hv:VA H φ st a v):HR H φ st ((d,a)::fr) (tmps.setIfInBounds d v):=by
 intro t
 simp only [GS]
 by_cases e:d=t
 ·subst e
  rw [if_pos rfl]
  simpa [Array.getD,hd] using hv
 ·rw [if_neg e]
  have:=h t
  simpa [Array.getD_eq_getD_getElem?,Array.getElem?_setIfInBounds,e] using this
theorem yf (fr:List (Nat×AV)) (f:AV->AV) (live:List Nat) (t:Nat) :
  GS (live.map fun t=>(t,f (GS fr t))) t=.undef\/GS (live.map fun t=>(t,f (GS fr t))) t=f (GS fr t):=by
 induction live with
 | nil=>exact .inl rfl
 | cons s r ih =>
  simp only [List.map_cons,GS]
  by_cases e:s=t
  ·subst e; rw [if_pos rfl]; exact .inr rfl
  ·rw [if_neg e]; exact ih
theorem HR.live {H:HP} {φ:CQ} {st:List AX} {fr:List (Nat×AV)} {tmps:Array Value} (h:HR H φ st fr tmps) (live:List Nat) :
  HR H φ st (live.map fun t=>(t,GS fr t)) tmps:=by
 intro t
 rcases yf fr id live t with e | e
 ·simp only [id] at e; rw [e]; trivial
 ·simp only [id] at e; rw [e]; exact h t
theorem My {st:List AX} {id:Nat} (h:(AQ st id).isSome=true):id<st.length:=by
 unfold AQ at h
 rcases CF id st.length with g | g
 ·exact g
 ·rw [Dn g] at h; simp at h
theorem uJ {st:List AX} {id:Nat} (h:An st id=true):id<st.length:=by
 unfold An at h
 rcases CF id st.length with g | g
 ·exact g
 ·rw [Dn g] at h; simp at h
theorem FO (φ:CQ) (st:List AX) (v:Value) (b:AX):CD φ st (fun i=>if i=st.length then v else φ i) (st++[b]) none:=by
 intro id _ hd
 have hl:id<st.length:=by rcases hd with h | h; exact My h; exact uJ h
 refine ⟨by simp [Nat.ne_of_lt hl],?_,?_,?_⟩
 ·simp [AQ,BO hl]
 ·simp [An,BO hl]
 ·simp [Ae,BO hl]
def TQ (f:AX->AX):Prop:=∀ b,(∃ cs cs',b=.var cs/\f b=.var cs')\/(f b=b/\∀ cs,b≠.var cs)
theorem Ai (ids:List Nat):TQ (AX.kill ids):=fun b=>by
 cases b<;>first | exact .inl ⟨_,_,rfl,rfl⟩ | exact .inr ⟨rfl,by simp⟩
theorem Ra (n:Nat):TQ (AX.older n):=fun b=>by
 cases b<;>first | exact .inl ⟨_,_,rfl,rfl⟩ | exact .inr ⟨rfl,by simp⟩
theorem IP {f:AX->AX} (hf:TQ f) (st:List AX) (id:Nat):AQ (st.map f) id=AQ st id:=by
 unfold AQ
 rw [Cd]
 cases st[id]? with
 | none=>rfl
 | some b =>
  simp only [Option.map_some]
  rcases hf b with ⟨cs,cs',rfl,e⟩ | ⟨e,_⟩
  ·rw [e]
  ·rw [e]
theorem GY {f:AX->AX} (hf:TQ f) (st:List AX) (id:Nat):An (st.map f) id=An st id:=by
 unfold An
 rw [Cd]
 cases st[id]? with
 | none=>rfl
 | some b =>
  simp only [Option.map_some]
  rcases hf b with ⟨cs,cs',rfl,e⟩ | ⟨e,_⟩
  ·rw [e]
  ·rw [e]
theorem TR {st:List AX} {id:Nat} (h:Ae st id=true):id<st.length:=by
 unfold Ae at h
 rcases CF id st.length with g | g
 ·exact g
 ·rw [Dn g] at h; simp at h
theorem HM {f:AX->AX} (hf:TQ f) (st:List AX) (id:Nat):Ae (st.map f) id=Ae st id:=by
 unfold Ae
 rw [Cd]
 cases st[id]? with
 | none=>rfl
 | some b =>
  simp only [Option.map_some]
  rcases hf b with ⟨cs,cs',rfl,e⟩ | ⟨e,_⟩
  ·rw [e]; rfl
  ·rw [e]
theorem AV.firm_VB {H:HP} {φ:CQ} {st:List AX} {a:AV} {v:Value} (hs:a.firm=true) (h:VB H φ st a v):VE H a v:=by
 rcases h.cases with ⟨cs,arr,rfl,e,h⟩ | h
 ·exact ⟨arr,e,VCs.solid hs h⟩
 ·cases a<;>first | exact VE.of_VF h | cases hs | exact h.elim
theorem VB.of_VE {H:HP} {φ:CQ} {st:List AX} {a:AV} {v:Value} (h:VE H a v):VB H φ st a v:=by
 rcases h.cases with ⟨cs,arr,rfl,e,h⟩ | h
 ·exact ⟨arr,e,(JK.1 h).imp fun _ _ h=>VC.of_VF h⟩
 ·exact VB.of_VC (VC.of_VF h)
theorem VC.older {H:HP} {φ:CQ} {st:List AX} {a:AV} {v:Value} (h:VC H φ st a v) (n:Nat):VC H φ ((st.take n).map (AX.older n)) (a.older1 n) v:=by
 have hk:∀ id,id<n->AQ ((st.take n).map (AX.older n)) id=AQ st id/\An ((st.take n).map (AX.older n)) id=An st id:=by
  intro id hid
  rw [IP (Ra n),GY (Ra n)]
  simp [AQ,An,CA,hid]
 cases a with
 | row id =>
  simp only [AV.older1]; split
  ·rename_i hid; obtain ⟨e,g⟩:=h; exact ⟨e,by rw [(hk id hid).1]; exact g⟩
  ·trivial
 | ptr id o =>
  simp only [AV.older1]; split
  ·rename_i hid; obtain ⟨g,r⟩:=h; exact ⟨by rw [(hk id hid).2]; exact g,r⟩
  ·trivial
 | eptr id i o =>
  simp only [AV.older1]; split
  ·rename_i hid; obtain ⟨b,m,cap,K,g,r⟩:=h; exact ⟨b,m,cap,K,by rw [(hk id hid).1]; exact g,r⟩
  ·trivial
 | agg cs=>trivial
 | tup vs=>trivial
 | _=>exact h
theorem VA.older {H:HP} {φ:CQ} {st:List AX} {a:AV} {v:Value} (h:VA H φ st a v) (n:Nat):VA H φ ((st.take n).map (AX.older n)) (a.older n) v:=by
 rcases h.cases with ⟨cs,arr,rfl,e,h⟩ | ⟨vs,arr,rfl,e,h⟩ | h
 ·exact ⟨arr,e,h.map fun _ _ h=>h.older n⟩
 ·trivial
 ·have:a.older n=a.older1 n:=by cases a<;>first | rfl | exact h.elim
  rw [this]
  exact VA.of_VC (h.older n)
def C7 (φ:CQ) (st:List AX) (φ':CQ) (st':List AX) (ids:List Nat):Prop :=
 (∀ id,CB ids id=false->((AQ st id).isSome=true\/An st id=true)->φ' id=φ id/\AQ st' id=AQ st id/\An st' id=An st id) /\
 (∀ id,Ae st id=true->φ' id=φ id/\Ae st' id=true/\An st' id=An st id)
theorem aL {st:List AX} {id:Nat} (h:An st id=true):Ae st id=true:=by
 unfold An at h
 unfold Ae
 split at h
 ·rename_i e; rw [e]; rfl
 ·cases h
theorem VC.kill {H:HP} {φ φ':CQ} {st st':List AX} {ids:List Nat} (hk:C7 φ st φ' st' ids) {a:AV} {v:Value} (h:VC H φ st a v):VC H φ' st' (a.kill1 ids) v:=by
 cases a with
 | row id =>
  simp only [AV.kill1]; split
  ·trivial
  ·rename_i hid
   obtain ⟨e,g⟩:=h
   obtain ⟨k1,k2,_⟩:=hk.1 id (by simpa using hid) (.inl g)
   exact ⟨by rw [k1]; exact e,by rw [k2]; exact g⟩
 | ptr id o =>
  obtain ⟨g,b,e1,e2⟩:=h
  obtain ⟨k1,_,k3⟩:=hk.2 id (aL g)
  exact ⟨k3.trans g,b,by rw [k1]; exact e1,e2⟩
 | eptr id i o =>
  simp only [AV.kill1]; split
  ·trivial
  ·rename_i hid
   obtain ⟨b,m,cap,K,g,hi,e1,e2⟩:=h
   obtain ⟨k1,k2,_⟩:=hk.1 id (by simpa using hid) (.inl (by simp [g]))
   exact ⟨b,m,cap,K,by rw [k2]; exact g,hi,by rw [k1]; exact e1,e2⟩
 | agg cs=>trivial
 | tup vs=>trivial
 | _=>exact h
theorem VA.kill {H:HP} {φ φ':CQ} {st st':List AX} {ids:List Nat} (hk:C7 φ st φ' st' ids) {a:AV} {v:Value} (h:VA H φ st a v):VA H φ' st' (a.kill ids) v:=by
 rcases h.cases with ⟨cs,arr,rfl,e,h⟩ | ⟨vs,arr,rfl,e,h⟩ | h
 ·exact ⟨arr,e,h.map fun _ _ h=>h.kill hk⟩
 ·simp only [AV.kill]
  split
  ·rename_i hf
   exact ⟨arr,e,h.impM fun a ha _ g=>VB.of_VE (AV.firm_VB (Bp.1 hf a ha) g)⟩
  ·trivial
 ·have:a.kill ids=a.kill1 ids:=by cases a<;>first | rfl | exact h.elim
  rw [this]
  exact VA.of_VC (h.kill hk)
theorem AAn (f:AV->AV):∀ (fr:List (Nat×AV)) (t:Nat),GS (fr.map fun p=>(p.1,f p.2)) t=f (GS fr t)\/GS (fr.map fun p=>(p.1,f p.2)) t=.undef
 | [],_=>.inr rfl
 | (s,v)::r,t=>by
  simp only [List.map_cons,GS]
  by_cases e:s=t
  ·rw [if_pos e,if_pos e]; exact .inl rfl
  ·rw [if_neg e,if_neg e]; exact AAn f r t
theorem HR.kill {H:HP} {φ φ':CQ} {st st':List AX} {ids:List Nat} (hk:C7 φ st φ' st' ids) {fr:List (Nat×AV)} {tmps:Array Value} (h:HR H φ st fr tmps):HR H φ' st' (fr.map (Qa ids)) tmps:=by
 intro t
 rcases AAn (AV.kill ids) fr t with e | e
 ·have:fr.map (Qa ids)=fr.map fun p=>(p.1,p.2.kill ids):=rfl
  rw [this,e]; exact (h t).kill hk
 ·have:fr.map (Qa ids)=fr.map fun p=>(p.1,p.2.kill ids):=rfl
  rw [this,e]; trivial
end Go.Proofs.YtfcgblnlopemkaaGreatDoor.Core

namespace Go.Proofs.YtfcgblnlopemkaaGreatDoor.Core
open Go
variable {H:HP} {φ:CQ} {st:List AX} {w w':World}
theorem HP.lt_of (h:∀ b o,H b=some o->w.heap[b]? = some o) {b:Nat} {o:Obj} (hb:H b=some o):b<w.heap.size :=
 (Array.getElem?_eq_some_iff.1 (h b o hb)).1
theorem NN.blk_lt {v:Value} {bx:AX} (h:NN H w v bx) (hl:bx.live=true) {b:Nat} (hb:ED v=some b):b<w.heap.size:=by
 cases bx with
 | var cs =>
  obtain ⟨b',c,el,rfl,hh,_⟩:=h
  simp only [ED,BT] at hb
  subst hb
  exact (Array.getElem?_eq_some_iff.1 hh).1
 | rows t K xs =>
  obtain ⟨flat,ho,_⟩:=h
  rcases ho.2 with ⟨rfl,_⟩ | ⟨g,cap,cur,rfl,_,hg,_⟩
  ·simp [ED] at hb
  ·simp only [ED,BT] at hb
   subst hb
   exact (Array.getElem?_eq_some_iff.1 hg).1
 | mrow t K xs =>
  obtain ⟨flat,ho,_⟩:=h
  rcases ho.2 with ⟨rfl,_⟩ | ⟨g,cap,cur,rfl,_,hg,_⟩
  ·simp [ED] at hb
  ·simp only [ED,BT] at hb
   subst hb
   exact (Array.getElem?_eq_some_iff.1 hg).1
 | byt t xs =>
  obtain ⟨g,cap,cur,fz,rfl,hg,_⟩:=h
  simp only [ED,BT] at hb
  subst hb
  exact (Array.getElem?_eq_some_iff.1 hg).1
 | frz K xs=>simp [AX.live] at hl
 | dead=>simp [AX.live] at hl
theorem NN.kept {v:Value} {bx:AX} (h:NN H w v bx) {row:Option Nat} (hg:w.grownBy w' row) (hne:∀ b,ED v=some b->bx.live=true->row≠some b) :
  NN H w' v bx:=by
 cases bx with
 | var cs =>
  obtain ⟨b,c,el,rfl,hh,hc⟩:=h
  refine ⟨b,c,el,rfl,?_,hc⟩
  rw [hg.block b (Array.getElem?_eq_some_iff.1 hh).1 (fun e=>hne b rfl rfl e.symm)]
  exact hh
 | rows t K xs =>
  obtain ⟨flat,ho,hr⟩:=h
  refine ⟨flat,ho.kept hg ?_,hr⟩
  rcases ho.2 with ⟨rfl,_⟩ | ⟨g,cap,cur,rfl,_⟩
  ·exact .inl rfl
  ·right
   intro e
   exact hne g rfl rfl (by simpa [Value.ownBlock] using e.symm)
 | mrow t K xs =>
  obtain ⟨flat,ho,hr⟩:=h
  refine ⟨flat,ho.kept hg ?_,hr⟩
  rcases ho.2 with ⟨rfl,_⟩ | ⟨g,cap,cur,rfl,_⟩
  ·exact .inl rfl
  ·right
   intro e
   exact hne g rfl rfl (by simpa [Value.ownBlock] using e.symm)
 | byt t xs =>
  obtain ⟨g,cap,cur,fz,rfl,hgc,h1,h2⟩:=h
  refine ⟨g,cap,cur,fz,rfl,?_,h1,h2⟩
  rw [hg.block g (Array.getElem?_eq_some_iff.1 hgc).1 (fun e=>hne g rfl rfl e.symm)]
  exact hgc
 | frz K xs=>exact h
 | dead=>trivial
theorem yg {row:Option Nat} (hg:w.grownBy w' row) {b o:Nat} {u:Value} (hne:row≠some b) (h:w.cell? ⟨b,o,none⟩=some u):w'.cell? ⟨b,o,none⟩=some u:=by
 have hlt:b<w.heap.size:=by
  rcases CF b w.heap.size with hl | hl
  ·exact hl
  ·simp [World.cell?,Array.getElem?_eq_none hl] at h
 simp only [World.cell?] at h ⊢
 rw [hg.block b hlt (fun e=>hne e.symm)]
 exact h
theorem VW.of_VF {p:Value} {el:TypeId} {a:AV} {v:Value} (h:VF H a v):VW H p el a v:=by cases a<;>first | exact h | exact h.elim
theorem VW.mono {H':HP} (hH:H.le H') {p:Value} {el:TypeId} {a:AV} {v:Value} (h:VW H p el a v):VW H' p el a v:=by
 cases a with
 | int k n=>exact VF.mono hH (a:=.int k n) h
 | bool b=>exact VF.mono hH (a:=.bool b) h
 | str b=>exact VF.mono hH (a:=.str b) h
 | nil=>exact VF.mono hH (a:=.nil) h
 | lst K xs=>exact VF.mono hH (a:=.lst K xs) h
 | fn f caps=>exact VF.mono hH (a:=.fn f caps) h
 | clo f K x=>exact VF.mono hH (a:=.clo f K x) h
 | self T=>exact h
 | _=>first | trivial | exact h.elim
theorem SR.grow (h:SR H φ st w) (hg:w.grownBy w' none):SR H φ st w' where
 hp b o hb:=by rw [hg.block b (HP.lt_of h.hp hb) (by simp)]; exact h.hp b o hb
 box id bx hid:=(h.box id bx hid).kept hg (fun _ _ _=>by simp)
 sep:=h.sep
 out:=h.out
 cell id cs hid o i ho:=by
  obtain ⟨h1,b,h2,h3⟩:=h.cell id cs hid o i ho
  exact ⟨h1,b,h2,yg hg (by simp) h3⟩
 tb:=h.tb
theorem SR.push (h:SR H φ st w) {v:Value} {bx:AX} (hb:NN H w v bx)
  (hn:bx.live=true->∀ b,ED v=some b->H b=none/\∀ i bi,st[i]? = some bi->bi.live=true->ED (φ i)≠some b)
  (hc:∀ (cs:List AV),bx=AX.var cs->∀ (o i:Nat),cs[o]? = some (AV.row i)->(AQ st i).isSome=true/\∃ b,v=.pointer (some ⟨b,0,none⟩)/\w.cell? ⟨b,o,none⟩=some (φ i)) :
  SR H (fun i=>if i=st.length then v else φ i) (st++[bx]) w where
 hp:=h.hp
 box id b0 hid:=by
  rcases Nat.lt_trichotomy id st.length with hl | hl | hl
  ·rw [BO hl] at hid
   simp only [Nat.ne_of_lt hl,if_false]
   exact h.box id b0 hid
  ·subst hl
   simp at hid
   subst hid
   simpa using hb
  ·rw [Cs (Nat.le_of_lt hl)] at hid
   rw [Dn (by simp; omega)] at hid
   cases hid
 sep i j bi bj hi hj li lj hij b hb':=by
  have key:∀ k bk,(st++[bx])[k]? = some bk->(k<st.length/\st[k]? = some bk)\/(k=st.length/\bk=bx):=by
   intro k bk hk
   rcases Nat.lt_trichotomy k st.length with hl | hl | hl
   ·rw [BO hl] at hk; exact .inl ⟨hl,hk⟩
   ·subst hl; simp at hk; exact .inr ⟨rfl,hk.symm⟩
   ·rw [Dn (by simp; omega)] at hk; cases hk
  rcases key i bi hi with ⟨h1,h2⟩ | ⟨h1,h2⟩<;>rcases key j bj hj with ⟨g1,g2⟩ | ⟨g1,g2⟩
  ·simp only [Nat.ne_of_lt h1,Nat.ne_of_lt g1,if_false] at hb' ⊢
   exact h.sep i j bi bj h2 g2 li lj hij b hb'
  ·subst g1; subst g2
   simp only [Nat.ne_of_lt h1,if_false,if_true] at hb' ⊢
   intro e
   exact (hn lj b e).2 i bi h2 li hb'
  ·subst h1; subst h2
   simp only [Nat.ne_of_lt g1,if_false,if_true] at hb' ⊢
   exact (hn li b hb').2 j bj g2 lj
  ·omega
 out i bi hi li b hb':=by
  rcases Nat.lt_trichotomy i st.length with hl | hl | hl
  ·rw [BO hl] at hi
   simp only [Nat.ne_of_lt hl,if_false] at hb'
   exact h.out i bi hi li b hb'
  ·subst hl
   simp at hi
   subst hi
   simp only [if_true] at hb'
   exact (hn li b hb').1
  ·rw [Dn (by simp; omega)] at hi; cases hi
 cell id cs hid o i ho:=by
  have up:∀ i,(AQ st i).isSome=true->(AQ (st++[bx]) i).isSome=true/\(if i=st.length then v else φ i)=φ i:=by
   intro i hi
   have hl:=My hi
   refine ⟨?_,by simp [Nat.ne_of_lt hl]⟩
   unfold AQ at hi ⊢
   rw [BO hl]
   exact hi
  rcases Nat.lt_trichotomy id st.length with hl | hl | hl
  ·rw [BO hl] at hid
   obtain ⟨h1,b,h2,h3⟩:=h.cell id cs hid o i ho
   obtain ⟨u1,u2⟩:=up i h1
   refine ⟨u1,b,by simpa [Nat.ne_of_lt hl] using h2,?_⟩
   simp only [u2]; exact h3
  ·subst hl
   simp at hid
   obtain ⟨h1,b,h2,h3⟩:=hc cs hid o i ho
   obtain ⟨u1,u2⟩:=up i h1
   refine ⟨u1,b,by simpa using h2,?_⟩
   simp only [u2]; exact h3
  ·rw [Dn (by simp; omega)] at hid; cases hid
 tb:=h.tb
theorem SR.fresh (h:SR H φ st w) {b:Nat} (hb:w.heap.size<=b):H b=none/\∀ i bi,st[i]? = some bi->bi.live=true->ED (φ i)≠some b:=by
 constructor
 ·cases hq:H b with
  | none=>rfl
  | some o=>have:=HP.lt_of h.hp hq; omega
 ·intro i bi hi li e
  have:=(h.box i bi hi).blk_lt li e
  omega
theorem SR.update (h:SR H φ st w) {id:Nat} {bx bx':AX} {v':Value} (hid:st[id]? = some bx) (hl:bx.live=true) (hg:w.grownBy w' (ED (φ id)))
  (hb:NN H w' v' bx') (hn:∀ b,ED v'=some b->ED (φ id)=some b\/w.heap.size<=b)
  (hr:∀ (k:Nat) (cs:List AV),st[k]? = some (AX.var cs)->∀ (o:Nat),cs[o]? = some (AV.row id)->v'=φ id/\(AQ (st.set id bx') id).isSome=true)
  (hc:∀ (cs:List AV),bx'=AX.var cs->∀ (o i:Nat),cs[o]? = some (AV.row i)->i≠id/\(AQ st i).isSome=true/\∃ b,v'=.pointer (some ⟨b,0,none⟩)/\w'.cell? ⟨b,o,none⟩=some (φ i)) :
  SR H (fun i=>if i=id then v' else φ i) (st.set id bx') w':=by
 have hlt:id<st.length:=(As.1 hid).1
 have hown:∀ b,ED v'=some b->H b=none/\∀ j bj,st[j]? = some bj->bj.live=true->j≠id->ED (φ j)≠some b:=by
  intro b hb'
  rcases hn b hb' with e | e
  ·exact ⟨h.out id bx hid hl b e,fun j bj hj lj hne=>h.sep id j bx bj hid hj hl lj (Ne.symm hne) b e⟩
  ·exact ⟨(h.fresh e).1,fun j bj hj lj _=>(h.fresh e).2 j bj hj lj⟩
 have get:∀ k,k≠id->(st.set id bx')[k]? = st[k]? := fun k hk=>by rw [BK]; simp [Ne.symm hk]
 have geti:(st.set id bx')[id]? = some bx':=by rw [BK]; simp [hlt]
 refine ⟨fun b o hb'=>?_,fun k bk hk=>?_,fun i j bi bj hi hj li lj hij b hb'=>?_,fun i bi hi li b hb'=>?_,fun k cs hk o i ho=>?_,h.tb⟩
 ·rw [hg.block b (HP.lt_of h.hp hb') (fun e=>by have:=h.out id bx hid hl b e.symm; rw [this] at hb'; cases hb')]
  exact h.hp b o hb'
 ·by_cases e:k=id
  ·subst e
   rw [geti] at hk
   cases hk
   simpa using hb
  ·rw [get k e] at hk
   simp only [e,if_false]
   exact (h.box k bk hk).kept hg fun b h1 h2=>fun e2=>h.sep k id bk bx hk hid h2 hl e b h1 e2
 ·by_cases ei:i=id
  ·subst ei
   have ej:j≠i:=Ne.symm hij
   rw [get j ej] at hj
   simp only [ej,if_false,if_true] at hb' ⊢
   exact (hown b hb').2 j bj hj lj ej
  ·rw [get i ei] at hi
   by_cases ej:j=id
   ·subst ej
    simp only [ei,if_false,if_true] at hb' ⊢
    intro e
    exact (hown b e).2 i bi hi li ei hb'
   ·rw [get j ej] at hj
    simp only [ei,ej,if_false] at hb' ⊢
    exact h.sep i j bi bj hi hj li lj hij b hb'
 ·by_cases ei:i=id
  ·subst ei
   simp only [if_true] at hb'
   exact (hown b hb').1
  ·rw [get i ei] at hi
   simp only [ei,if_false] at hb'
   exact h.out i bi hi li b hb'
 ·have kk:∀ i,i≠id->AQ (st.set id bx') i=AQ st i:=fun i hi=>by simp only [AQ,get i hi]
  by_cases ek:k=id
  ·subst ek
   rw [geti] at hk
   cases hk
   obtain ⟨h0,h1,b,h2,h3⟩:=hc cs rfl o i ho
   exact ⟨by rw [kk i h0]; exact h1,b,by simpa using h2,by simp only [h0,if_false]; exact h3⟩
  ·rw [get k ek] at hk
   obtain ⟨h1,b,h2,h3⟩:=h.cell k cs hk o i ho
   have h4:=yg hg (fun e=>h.sep k id _ bx hk hid rfl hl ek b (by rw [h2]; rfl) e) h3
   by_cases ei:i=id
   ·subst ei
    obtain ⟨g1,g2⟩:=hr k cs hk o ho
    exact ⟨g2,b,by simpa [ek] using h2,by simp only [if_true,g1]; exact h4⟩
   ·exact ⟨by rw [kk i ei]; exact h1,b,by simpa [ek] using h2,by simp only [ei,if_false]; exact h4⟩
theorem gu {id:Nat} {bx':AX} {v':Value} (hk:AQ (st.set id bx') id=AQ st id) (hv:An (st.set id bx') id=An st id) (hh:Ae (st.set id bx') id=Ae st id) (he:v'=φ id) :
  CD φ st (fun i=>if i=id then v' else φ i) (st.set id bx') none:=by
 intro i _ _
 by_cases e:i=id
 ·subst e
  exact ⟨by simp [he],hk,hv,hh⟩
 ·refine ⟨by simp [e],?_,?_,?_⟩
  ·simp [AQ,BK,Ne.symm e]
  ·simp [An,BK,Ne.symm e]
  ·simp [Ae,BK,Ne.symm e]
theorem TW {K:Kd} {xs:List K.T} {flat:List Value} (hr:EE H K xs flat) (hl:flat.length=xs.length*K.sz) {j:Nat} {x:K.T} (hx:xs[j]? = some x) :
  ∃ cs,Gj H K x cs/\cs.length=K.sz/\∀ i u,cs[i]? = some u->flat[j*K.sz+i]? = some u:=by
 have h:=hr j x hx
 refine ⟨_,h,h.length,fun i u hu=>?_⟩
 rw [CA] at hu
 split at hu
 ·simpa using hu
 ·cases hu
theorem rW {k:IntKind}:∀ {xs:List Int} {flat:List Value},EE H (.int k) xs flat->flat.length=xs.length*1->flat=xs.map (.int k)
 | [],flat,_,hl=>by
  have:flat=[]:=DD.1 (by simpa using hl)
  subst this; rfl
 | x::xs,flat,h,hl=>by
  cases flat with
  | nil=>simp at hl
  | cons a r =>
   have h0:Gj H (.int k) x ((a::r).take 1):=h 0 x rfl
   have h0:[a]=[.int k x]:=h0
   cases h0
   have:=rW (xs:=xs) (flat:=r) (fun j y hy=>by have:=h (j+1) y (by simpa using hy); simpa [Kd.sz] using this) (by simp at hl ⊢; omega)
   rw [this]; rfl
theorem rX {k:IntKind} {xs:List Int}:EE H (.int k) xs (xs.map (.int k)):=by
 intro j x hx
 have hj:j<xs.length:=(As.1 hx).1
 have:((xs.map (Value.int k)).drop (j*(Kd.int k).sz)).take (Kd.int k).sz=[.int k x]:=by
  simp only [Kd.sz,Nat.mul_one]
  rw [List.drop_eq_getElem_cons (by simpa using hj)]
  simp [(As.1 hx).2]
 rw [this]
 rfl
theorem zR.flat {t:TypeId} {v:Value} {xs:List Int} (h:zR w t v xs):∃ g cap,v=.slice (some ⟨g,0,none⟩) xs.length cap/\∀ (j:Nat) (u:Value),(xs.map (Value.int .u8))[j]? = some u->w.cell? ⟨g,j,none⟩=some u:=by
 obtain ⟨g,cap,cur,fz,e,hg,_,_,hc⟩:=h
 refine ⟨g,cap,e,fun j u hu=>?_⟩
 rw [Cd] at hu
 cases hx:xs[j]? with
 | none=>rw [hx] at hu; cases hu
 | some x =>
  rw [hx] at hu
  cases hu
  have:=hc j x hx
  simpa [World.cell?,hg] using this
theorem SR.freeze (h:SR H φ st w) {id:Nat} {t:TypeId} {K:Kd} {xs:List K.T} (hid:st[id]? = some (.rows t K xs)) :
  ∃ H',H.le H'/\SR H' φ (st.set id (.frz K xs)) w/\dN (Gj H' K) K.sz H' xs (φ id)/\∀ b,ED (φ id)≠some b->H' b=H b:=by
 have hlt:id<st.length:=(As.1 hid).1
 obtain ⟨flat,ho,hr⟩:=h.box id _ hid
 let H':HP:=fun b=>if ED (φ id)=some b then w.heap[b]? else H b
 have hle:H.le H':=by
  intro b o hb
  by_cases e:ED (φ id)=some b
  ·have:=h.out id _ hid rfl b e
   rw [this] at hb
   cases hb
  ·simp only [H',e,if_false]
   exact hb
 have hread:dN (Gj H' K) K.sz H' xs (φ id):=by
  rcases ho.2 with ⟨e,hn⟩ | ⟨g,cap,cur,e,_,hg,hc,hm,hs,ht⟩
  ·have:xs=[]:=DD.1 hn
   subst this
   rw [e]
   exact YI
  ·refine ⟨some ⟨g,0,none⟩,cap,e,hc,.inr ⟨g,0,cur,t,(0,0),rfl,?_,fun j x hx=>?_⟩⟩
   ·simp [H',e,ED,hg]
   ·obtain ⟨cs,h1,h2,h3⟩:=TW hr ho.1 hx
    refine ⟨cs,h1.mono hle,h2,fun i u hu=>?_⟩
    have:=h3 i u hu
    rw [<- ht,CA] at this
    split at this
    ·simpa using this
    ·cases this
 have get:∀ k,k≠id->(st.set id (.frz K xs))[k]? = st[k]? := fun k hk=>by rw [BK]; simp [Ne.symm hk]
 have geti:(st.set id (.frz K xs))[id]? = some (.frz K xs):=by rw [BK]; simp [hlt]
 refine ⟨H',hle,⟨fun b o hb=>?_,fun k bk hk=>?_,fun i j bi bj hi hj li lj hij=>?_,fun i bi hi li b hb=>?_,fun k cs hk o i ho=>?_,h.tb.le hle⟩,hread,fun b e=>by simp [H',e]⟩
 ·by_cases e:ED (φ id)=some b
  ·simpa [H',e] using hb
  ·simp only [H',e,if_false] at hb
   exact h.hp b o hb
 ·by_cases e:k=id
  ·subst e
   rw [geti] at hk
   cases hk
   refine ⟨hread,fun a n cap e2=>?_⟩
   rcases ho.2 with ⟨e,_⟩ | ⟨g,cap',cur,e,_⟩
   ·rw [e] at e2; cases e2
   ·rw [e] at e2; cases e2; exact ⟨rfl,rfl⟩
  ·rw [get k e] at hk
   have:=h.box k bk hk
   cases bk with
   | var cs=>obtain ⟨b,c,el,e1,e2,e3⟩:=this; exact ⟨b,c,el,e1,e2,e3.imp fun _ _ h=>h.mono hle⟩
   | rows t' K' xs'=>obtain ⟨flat',o',r'⟩:=this; exact ⟨flat',o',fun j x hx=>(r' j x hx).mono hle⟩
   | mrow t' K' xs'=>obtain ⟨flat',o',r'⟩:=this; exact ⟨flat',o',fun j x hx=>(r' j x hx).mono hle⟩
   | byt t' xs'=>exact this
   | frz K' xs'=>obtain ⟨r',a'⟩:=this; exact ⟨Po (fun _ _ h=>Gj.mono hle h) hle r',a'⟩
   | dead=>trivial
 ·by_cases ei:i=id
  ·subst ei; rw [geti] at hi; cases hi; cases li
  ·by_cases ej:j=id
   ·subst ej; rw [geti] at hj; cases hj; cases lj
   ·rw [get i ei] at hi
    rw [get j ej] at hj
    exact h.sep i j bi bj hi hj li lj hij
 ·by_cases ei:i=id
  ·subst ei; rw [geti] at hi; cases hi; cases li
  ·rw [get i ei] at hi
   have e:ED (φ id)≠some b:=fun e=>h.sep i id bi _ hi hid li rfl ei b hb e
   simp only [H',e,if_false]
   exact h.out i bi hi li b hb
 ·by_cases ek:k=id
  ·subst ek; rw [geti] at hk; cases hk
  ·rw [get k ek] at hk
   obtain ⟨h1,b,h2,h3⟩:=h.cell k cs hk o i ho
   refine ⟨?_,b,h2,h3⟩
   by_cases ei:i=id
   ·subst ei; unfold AQ; rw [geti]; rfl
   ·unfold AQ at h1 ⊢; rw [get i ei]; exact h1
theorem lw {id:Nat} {t:TypeId} {K:Kd} {xs:List K.T} (hid:st[id]? = some (.rows t K xs)):CD φ st φ (st.set id (.frz K xs)) none:=by
 have hlt:id<st.length:=(As.1 hid).1
 intro i _ _
 by_cases e:i=id
 ·subst e
  have e2:(st.set i (AX.frz K xs))[i]? = some (.frz K xs):=by rw [BK]; simp [hlt]
  refine ⟨rfl,?_,?_,?_⟩
  ·simp only [AQ,hid,e2]
  ·simp only [An,hid,e2]
  ·simp only [Ae,hid,e2]; rfl
 ·refine ⟨rfl,?_,?_,?_⟩
  ·simp [AQ,BK,Ne.symm e]
  ·simp [An,BK,Ne.symm e]
  ·simp [Ae,BK,Ne.symm e]
def YJ (g:AV->AV):AX->AX
 | .var cs=>.var (cs.map g)
 | b=>b
theorem xh (g:AV->AV):TQ (YJ g):=fun b=>by
 cases b<;>first | exact .inl ⟨_,_,rfl,rfl⟩ | exact .inr ⟨rfl,by simp⟩
theorem SR.forget (h:SR H φ st w) {g:AV->AV} (hg:∀ c,g c=c\/(∃ i,g c=.was i)\/g c=.undef):SR H φ (st.map (YJ g)) w:=by
 have get:∀ (k:Nat) (b:AX),(st.map (YJ g))[k]? = some b->∃ b0,st[k]? = some b0/\b=YJ g b0/\(b.live=b0.live):=by
  intro k b hk
  rw [Cd] at hk
  cases hb:st[k]? with
  | none=>rw [hb] at hk; cases hk
  | some b0 =>
   rw [hb] at hk
   cases hk
   exact ⟨b0,rfl,rfl,by cases b0<;>rfl⟩
 refine ⟨h.hp,fun k b hk=>?_,fun i j bi bj hi hj li lj hij=>?_,fun i bi hi li=>?_,fun k cs hk o i ho=>?_,h.tb⟩
 ·obtain ⟨b0,h1,rfl,_⟩:=get k b hk
  have:=h.box k b0 h1
  cases b0 with
  | var cs =>
   obtain ⟨b,c,el,e1,e2,e3⟩:=this
   refine ⟨b,c,el,e1,e2,e3.map fun a v hv=>?_⟩
   rcases hg a with e | ⟨i,e⟩ | e
   ·rw [e]; exact hv
   ·rw [e]; trivial
   ·rw [e]; trivial
  | _=>exact this
 ·obtain ⟨b0,h1,_,l1⟩:=get i bi hi
  obtain ⟨b1,h2,_,l2⟩:=get j bj hj
  exact h.sep i j b0 b1 h1 h2 (l1▸li) (l2▸lj) hij
 ·obtain ⟨b0,h1,_,l1⟩:=get i bi hi
  exact h.out i b0 h1 (l1▸li)
 ·obtain ⟨b0,h1,e,_⟩:=get k _ hk
  cases b0 with
  | var cs0 =>
   cases e
   rw [Cd] at ho
   cases hc:cs0[o]? with
   | none=>rw [hc] at ho; cases ho
   | some c =>
    rw [hc] at ho
    simp only [Option.map_some,BT] at ho
    rcases hg c with e | ⟨j,e⟩ | e
    ·rw [e] at ho
     subst ho
     obtain ⟨g1,g2⟩:=h.cell k cs0 h1 o i hc
     exact ⟨by rw [IP (xh g)]; exact g1,g2⟩
    ·rw [e] at ho; cases ho
    ·rw [e] at ho; cases ho
  | _=>cases e
theorem ADv (ids:List Nat):AX.kill ids=YJ (AV.killB ids):=by funext b; cases b<;>rfl
theorem AAo (ids:List Nat) (c:AV):AV.killB ids c=c\/(∃ i,AV.killB ids c=.was i)\/AV.killB ids c=.undef:=by
 cases c with
 | row i =>
  simp only [AV.killB]
  split
  ·exact .inr (.inl ⟨i,rfl⟩)
  ·exact .inl rfl
 | _=>exact .inl rfl
theorem SR.kill (h:SR H φ st w) (ids:List Nat):SR H φ (st.map (AX.kill ids)) w:=by
 rw [ADv]; exact h.forget (AAo ids)
theorem AC5 (n:Nat):AX.older n=YJ (AV.olderC n):=by funext b; cases b<;>rfl
theorem SR.older (h:SR H φ st w) (n:Nat):SR H φ (st.map (AX.older n)) w:=by
 rw [AC5]
 refine h.forget fun c=>?_
 cases c with
 | row i =>
  simp only [AV.olderC]
  split
  ·exact .inl rfl
  ·exact .inr (.inr rfl)
 | _=>exact .inl rfl
theorem TS {ids:List Nat} {k:Nat} {cs:List AV} (h:(st.map (AX.kill ids))[k]? = some (.var cs)) {o i:Nat} (ho:cs[o]? = some (.row i)):CB ids i=false:=by
 rw [Cd] at h
 cases hb:st[k]? with
 | none=>rw [hb] at h; cases h
 | some b =>
  rw [hb] at h
  cases b with
  | var cs0 =>
   cases h
   rw [Cd] at ho
   cases hc:cs0[o]? with
   | none=>rw [hc] at ho; cases ho
   | some c =>
    rw [hc] at ho
    simp only [Option.map_some,BT] at ho
    cases c<;>simp only [AV.killB] at ho<;>try cases ho
    split at ho
    ·cases ho
    ·rename_i hn
     cases ho
     simpa using hn
  | _=>cases h
end Go.Proofs.YtfcgblnlopemkaaGreatDoor.Core

namespace Go.Proofs.YtfcgblnlopemkaaGreatDoor.Core
open Go
variable {H:HP} {φ:CQ} {st:List AX} {w:World}
theorem VF.cells {a:AV} {v:Value} (h:VF H a v):v.cells=#[v]:=by
 cases a with
 | int k n=>simp only [VF] at h; subst h; rfl
 | bool b=>simp only [VF] at h; subst h; rfl
 | str s=>simp only [VF] at h; subst h; rfl
 | nil=>simp only [VF] at h; subst h; rfl
 | lst K xs=>obtain ⟨a,cap,e,_⟩:=h; subst e; rfl
 | fn f caps=>obtain ⟨_,e⟩:=h; subst e; rfl
 | clo f K x=>obtain ⟨b,o,c,el,fz,e,_⟩:=h; subst e; rfl
 | _=>exact h.elim
theorem Kd.sz_pos:∀ K:Kd,0<K.sz
 | .int _=>Nat.one_pos
 | .bool=>Nat.one_pos
 | .str=>Nat.one_pos
 | .slice _=>Nat.one_pos
 | .pair a b=>by have:=Kd.sz_pos a; simp only [Kd.sz]; omega
 | .own _ _=>Nat.one_pos
 | .ref _=>Nat.one_pos
 | .fun _=>Nat.one_pos
 | .clo _ _=>Nat.one_pos
theorem yh {K:Kd} {xs:List K.T} {v:Value} (hp:∀ b o,H b=some o->w.heap[b]? = some o) (h:dN (Gj H K) K.sz H xs v) :
  ∃ sl cap flat,v=.slice sl xs.length cap/\xs.length<=cap/\flat.length=xs.length*K.sz/\EE H K xs flat /\
   (xs=[]\/∃ b off c el fz,sl=some ⟨b,off,none⟩/\H b=some (.cells c el fz)/\(∀ j u,flat[j]? = some u->c[off+j]? = some u)):=by
 obtain ⟨sl,cap,e,hc,hr⟩:=h
 rcases hr with rfl | ⟨b,off,c,el,fz,ea,hb,hr⟩
 ·exact ⟨sl,cap,[],e,hc,by simp,fun j x hx=>by simp at hx,.inl rfl⟩
 ·refine ⟨sl,cap,(c.toList.drop off).take (xs.length*K.sz),e,hc,?_,?_,.inr ⟨b,off,c,el,fz,ea,hb,?_⟩⟩
  ·have hsz:=Kd.sz_pos K
   rcases Nat.eq_zero_or_pos xs.length with h0 | h0
   ·simp [h0]
   ·obtain ⟨cs,h1,h2,h3⟩:=hr (xs.length-1) (xs[xs.length-1]'(by omega)) (by simp)
    have hlast:=h3 (K.sz-1) (cs[K.sz-1]'(by omega)) (by simp)
    have hlt:off+(xs.length-1)*K.sz+(K.sz-1)<c.size:=by
     have:=(Array.getElem?_eq_some_iff.1 hlast).1
     exact this
    have e2:(xs.length-1)*K.sz+K.sz=xs.length*K.sz:=by
     rw [<- Nat.succ_mul]; congr 1; omega
    simp only [List.length_take,List.length_drop,Array.length_toList]
    omega
  ·intro j x hx
   obtain ⟨cs,h1,h2,h3⟩:=hr j x hx
   have hj:j<xs.length:=(As.1 hx).1
   have e3:((((c.toList.drop off).take (xs.length*K.sz)).drop (j*K.sz)).take K.sz)=cs:=by
    apply List.ext_getElem?
    intro i
    rcases CF i K.sz with hi | hi
    ·have hci:cs[i]? = some (cs[i]'(by omega)):=by simp
     have:=h3 i _ hci
     have hlt2:j*K.sz+i<xs.length*K.sz:=by
      have:(j+1)*K.sz<=xs.length*K.sz:=CP _ hj
      rw [Nat.succ_mul] at this
      omega
     rw [hci,CA,if_pos hi,DC,CA,if_pos hlt2,DC,Array.getElem?_toList]
     rw [show off+(j*K.sz+i)=off+j*K.sz+i by omega]
     exact this
    ·rw [CA,if_neg (by omega),Dn (by omega)]
   rw [e3]
   exact h1
  ·intro j u hu
   rw [CA] at hu
   split at hu
   ·rw [DC,Array.getElem?_toList] at hu
    exact hu
   ·cases hu
theorem zT {ρ:Type} {s:St} {a:AV} {v:Value} {K:Kd} {kn:List K.T->Option ρ} {r:ρ} (hs:SR H φ s.st w) (hv:VC H φ s.st a v) (h:s.list a K kn=some r) :
  ∃ xs,kn xs=some r/\∃ sl cap flat,v=.slice sl xs.length cap/\flat.length=xs.length*K.sz/\EE H K xs flat /\
   (sl=none\/xs=[]\/∃ b off,sl=some ⟨b,off,none⟩/\∀ j u,flat[j]? = some u->w.cell? ⟨b,off+j,none⟩=some u)/\(sl=none->xs=[]):=by
 have frozen:∀ (xs:List K.T) v,dN (Gj H K) K.sz H xs v->∃ sl cap flat,v=.slice sl xs.length cap/\flat.length=xs.length*K.sz/\EE H K xs flat /\
   (sl=none\/xs=[]\/∃ b off,sl=some ⟨b,off,none⟩/\∀ j u,flat[j]? = some u->w.cell? ⟨b,off+j,none⟩=some u)/\(sl=none->xs=[]):=by
  intro xs v hr
  obtain ⟨sl,cap,flat,e,_,hl,hrr,hc⟩:=yh hs.hp hr
  refine ⟨sl,cap,flat,e,hl,hrr,?_,?_⟩
  ·rcases hc with h0 | ⟨b,off,c,el,fz,e1,e2,e3⟩
   ·exact .inr (.inl h0)
   ·refine .inr (.inr ⟨b,off,e1,fun j u hu=>?_⟩)
    simp only [World.cell?,hs.hp _ _ e2]
    simpa using e3 j u hu
  ·intro e0
   rcases hc with h0 | ⟨b,off,c,el,fz,e1,_⟩
   ·exact h0
   ·rw [e0] at e1; cases e1
 cases a with
 | nil =>
  simp only [St.list] at h
  simp only [VC,VF] at hv
  subst hv
  exact ⟨[],h,none,0,[],rfl,by simp,fun j x hx=>by simp at hx,.inl rfl,fun _=>rfl⟩
 | lst K' xs =>
  simp only [St.list] at h
  split at h
  ·rename_i hk
   subst hk
   exact ⟨xs,h,frozen xs v hv⟩
  ·cases h
 | row id =>
  simp only [St.list] at h
  obtain ⟨e,_⟩:=hv
  subst e
  cases hb:s.st[id]? with
  | none=>rw [hb] at h; cases h
  | some bx =>
   rw [hb] at h
   have hbox:=hs.box id bx hb
   cases bx with
   | rows t K' xs =>
    simp only at h
    split at h
    ·rename_i hk
     subst hk
     obtain ⟨flat,ho,hr⟩:=hbox
     refine ⟨xs,h,?_⟩
     rcases ho.2 with ⟨e,hn⟩ | ⟨g,cap,cur,e,_,hg,hc,hm,hsz,ht⟩
     ·have h0:xs=[]:=DD.1 hn
      subst h0
      exact ⟨none,0,flat,by rw [e]; rfl,ho.1,hr,.inl rfl,fun _=>rfl⟩
     ·refine ⟨some ⟨g,0,none⟩,cap,flat,e,ho.1,hr,.inr (.inr ⟨g,0,rfl,fun j u hu=>?_⟩),fun e0=>by cases e0⟩
      have:=ho.cells (g:=g) (by rw [e]; rfl) j u hu
      have hadd:(⟨g,0,none⟩:Addr).add j=⟨g,0+j,none⟩:=by unfold Addr.add; split<;>simp_all
      rw [hadd] at this
      exact this
    ·cases h
   | byt t xs =>
    simp only at h
    split at h
    ·rename_i hk
     subst hk
     obtain ⟨g,cap,e,hc⟩:=zR.flat hbox
     exact ⟨xs,h,some ⟨g,0,none⟩,cap,xs.map (.int .u8),e,by simp [Kd.sz],rX,.inr (.inr ⟨g,0,rfl,fun j u hu=>by rw [Nat.zero_add]; exact hc j u hu⟩),fun e0=>by cases e0⟩
    ·cases h
   | mrow t K' xs =>
    simp only at h
    split at h
    ·rename_i hk
     subst hk
     obtain ⟨flat,ho,hr⟩:=hbox
     refine ⟨xs,h,?_⟩
     rcases ho.2 with ⟨e,hn⟩ | ⟨g,cap,cur,e,_,hg,hc,hm,hsz,ht⟩
     ·have h0:xs=[]:=DD.1 hn
      subst h0
      exact ⟨none,0,flat,by rw [e]; rfl,ho.1,hr,.inl rfl,fun _=>rfl⟩
     ·refine ⟨some ⟨g,0,none⟩,cap,flat,e,ho.1,hr,.inr (.inr ⟨g,0,rfl,fun j u hu=>?_⟩),fun e0=>by cases e0⟩
      have:=ho.cells (g:=g) (by rw [e]; rfl) j u hu
      have hadd:(⟨g,0,none⟩:Addr).add j=⟨g,0+j,none⟩:=by unfold Addr.add; split<;>simp_all
      rw [hadd] at this
      exact this
    ·cases h
   | frz K' xs =>
    simp only at h
    split at h
    ·rename_i hk
     subst hk
     exact ⟨xs,h,frozen xs _ hbox.1⟩
    ·cases h
   | var cs=>cases h
   | dead=>cases h
 | _=>cases h
end Go.Proofs.YtfcgblnlopemkaaGreatDoor.Core

namespace Go.Proofs.YtfcgblnlopemkaaGreatDoor.Core
open Go
variable {H:HP} {φ:CQ} {st:List AX} {w:World} {P:Program}
theorem gw {s:St} {a:AV} {v:Value} {cs:List AV} {off:Nat} (hs:SR H φ s.st w) (hv:VC H φ s.st a v) (h:s.behind a=some (cs,off)) :
  ∃ b o vs,v=.pointer (some ⟨b,o+off,none⟩)/\Az (VC H φ s.st) cs vs/\w.rangeAt b o vs:=by
 cases a with
 | fptr cs' off' =>
  cases h
  obtain ⟨b,o,c,el,fz,e,hb,vs,h1,h2⟩:=hv
  refine ⟨b,o,vs,e,(JK.1 h1).imp fun _ _ h=>VC.of_VF h,fun j u hu=>?_⟩
  simp only [World.cell?,hs.hp _ _ hb]
  simpa using h2 j u hu
 | ptr id off' =>
  obtain ⟨_,b,e1,e2⟩:=hv
  simp only [St.behind] at h
  cases hb:s.st[id]? with
  | none=>rw [hb] at h; cases h
  | some bx =>
   rw [hb] at h
   cases bx with
   | var cs' =>
    cases h
    obtain ⟨b',c,el,e3,hh,hc⟩:=hs.box id _ hb
    rw [e1] at e3
    cases e3
    refine ⟨b,0,c.toList,by rw [e2]; simp,VR hc.length fun j a u ha hu=>?_,fun j u hu=>?_⟩
    ·have hw:=hc.at ha hu
     cases a with
     | row i =>
      obtain ⟨g1,b2,g2,g3⟩:=hs.cell id _ hb j i ha
      rw [e1] at g2
      cases g2
      simp only [World.cell?,hh] at g3
      rw [Array.getElem?_toList] at hu
      simp only [Option.isSome_none,Bool.false_eq_true,if_false] at g3
      rw [hu] at g3
      cases g3
      exact ⟨rfl,g1⟩
     | was i=>trivial
     | self T=>trivial
     | undef=>trivial
     | _=>exact VC.of_VF hw
    simp only [World.cell?,hh]
    simpa using hu
   | _=>cases h
 | eptr id i off' =>
  obtain ⟨b,n,cap,K,hk,hi,e1,e2⟩:=hv
  simp only [St.behind] at h
  cases hb:s.st[id]? with
  | none=>rw [hb] at h; cases h
  | some bx =>
   rw [hb] at h
   cases bx with
   | rows t K' xs =>
    cases h
    simp only [AQ,hb,BT,Prod.mk.injEq] at hk
    obtain ⟨rfl,rfl⟩:=hk
    obtain ⟨flat,ho,hr⟩:=hs.box id _ hb
    have hx:xs[i]? = some (xs.getD i K'.zero):=by simp [List.getD,hi]
    obtain ⟨vs,r1,r2,r3⟩:=TW hr ho.1 hx
    refine ⟨b,i*K'.sz,vs,e2,(JK.1 (Jz.of_rep r1)).imp fun _ _ h=>VC.of_VF h,fun j u hu=>?_⟩
    have:=ho.cells (g:=b) (by rw [e1]; rfl) (i*K'.sz+j) u (r3 j u hu)
    rw [Addr.add_mid] at this
    simpa using this
   | byt t xs =>
    cases h
    simp only [AQ,hb,BT,Prod.mk.injEq] at hk
    obtain ⟨rfl,rfl⟩:=hk
    obtain ⟨g,cap',e3,hc⟩:=zR.flat (hs.box id _ hb)
    rw [e1] at e3
    cases e3
    refine ⟨b,i*1,[.int .u8 (xs.getD i (Kd.int .u8).zero)],by rw [e2]; rfl,⟨_,_,rfl,rfl,rfl⟩,fun j u hu=>?_⟩
    match j,hu with
    | 0,hu =>
     cases hu
     simpa using hc i _ (by simp [List.getD,hi])
   | mrow t K' xs =>
    cases h
    simp only [AQ,hb,BT,Prod.mk.injEq] at hk
    obtain ⟨rfl,rfl⟩:=hk
    obtain ⟨flat,ho,hr⟩:=hs.box id _ hb
    have hx:xs[i]? = some (xs.getD i K'.zero):=by simp [List.getD,hi]
    obtain ⟨vs,r1,r2,r3⟩:=TW hr ho.1 hx
    refine ⟨b,i*K'.sz,vs,e2,(JK.1 (Jz.of_rep r1)).imp fun _ _ h=>VC.of_VF h,fun j u hu=>?_⟩
    have:=ho.cells (g:=b) (by rw [e1]; rfl) (i*K'.sz+j) u (r3 j u hu)
    rw [Addr.add_mid] at this
    simpa using this
   | frz K' xs =>
    cases h
    simp only [AQ,hb,BT,Prod.mk.injEq] at hk
    obtain ⟨rfl,rfl⟩:=hk
    obtain ⟨hr,ha⟩:=hs.box id _ hb
    obtain ⟨sl,cap',e3,_,hr⟩:=hr
    have hx:xs[i]? = some (xs.getD i K'.zero):=by simp [List.getD,hi]
    rcases hr with h0 | ⟨b',o',c,el,fz,e4,e5,e6⟩
    ·rw [h0] at hi; simp at hi
    ·obtain ⟨vs,r1,r2,r3⟩:=e6 i _ hx
     rw [e1] at e3
     simp only [Value.slice.injEq] at e3
     rw [e4] at e3
     obtain ⟨e7,_⟩:=e3
     simp only [BT,Addr.mk.injEq] at e7
     obtain ⟨rfl,rfl,_⟩:=e7
     refine ⟨b,i*K'.sz,vs,e2,(JK.1 (Jz.of_rep r1)).imp fun _ _ h=>VC.of_VF h,fun j u hu=>?_⟩
     have:=r3 j u hu
     simp only [World.cell?,hs.hp _ _ e5]
     simpa using this
   | _=>cases h
 | _=>cases h
def szB (P:Program) (t:TypeId) (n:Nat):Bool:=(P.info? t).map (·.size)==some n
def dz (P:Program) (t:TypeId) (b:Bool):Bool :=
 match P.underlying t with
 | some (.struct _)=>b
 | some (.array _ _)=>b
 | some _=>!b
 | none=>false
theorem TX {t:TypeId} {n:Nat} (h:szB P t n=true):(P.info? t).map (·.size)=some n:=by simpa [szB] using h
theorem o4 {t:TypeId} (h:dz P t true=true):∃ d,P.underlying t=some d/\d.isRow=true:=by
 unfold dz at h
 cases hu:P.underlying t with
 | none=>simp [hu] at h
 | some d=>refine ⟨d,rfl,?_⟩; rw [hu] at h; cases d<;>simp_all [TypeDesc.isRow]
theorem uK {t:TypeId} (h:dz P t false=true):∃ d,P.underlying t=some d/\d.isRow=false:=by
 unfold dz at h
 cases hu:P.underlying t with
 | none=>simp [hu] at h
 | some d=>refine ⟨d,rfl,?_⟩; rw [hu] at h; cases d<;>simp_all [TypeDesc.isRow]
theorem bG {b o:Nat} {t:TypeId} {u:Value} (hc:w.cell? ⟨b,o,none⟩=some u) (ht:dz P t false=true) :
  (loadVar t ⟨b,o,none⟩).run P w=.ok u w:=by
 obtain ⟨d,hu,hd⟩:=uK ht
 have hagg:(isAgg t).run P w=.ok false w:=by
  unfold isAgg
  rw [Sem.run_bind,run_underlying hu w]
  cases d<;>simp_all [TypeDesc.isRow]
 simp [loadVar,Sem.run_bind,hagg,run_load,hc]
theorem zU {w w2:World} {b o:Nat} {vs:List Value} (h:w.rangeAt b o vs) (e:w2.heap[b]? = w.heap[b]?):w2.rangeAt b o vs:=by
 intro j u hu
 have:=h j u hu
 simp only [World.cell?] at this ⊢
 rw [e]
 exact this
theorem zV {s:St} {a:AV} {v:Value} {cs:List AV} {off:Nat} (hs:SR H φ s.st w) (hv:VC H φ s.st a v) (h:s.behind a=some (cs,off))
  {n:Option Nat} (hn:off+n.getD 1<=cs.length) {t:TypeId} (ht:(match n with | some k=>szB P t k&&dz P t true | none=>dz P t false)=true) :
  ∃ u,(∀ w2:World,(∀ b,ED v=some b->w2.heap[b]? = w.heap[b]?)->(Instr.loadAt t v).run P w2=.ok u w2)/\VA H φ s.st (part cs off n) u:=by
 obtain ⟨b,o,vs,rfl,h1,h2⟩:=gw hs hv h
 cases n with
 | some k =>
  simp only [AE] at ht
  simp only [Option.getD_some] at hn
  obtain ⟨d,hu,hd⟩:=o4 ht.2
  have h3:=(h1.drop off).take k
  have hl:((vs.drop off).take k).length=k:=by
   have:=h1.length
   simp only [List.length_take,List.length_drop]
   omega
  have hr:w.rangeAt b (o+off) ((vs.drop off).take k):=by
   intro j u hu
   rw [CA] at hu
   split at hu
   ·rw [DC] at hu
    have:=h2 _ _ hu
    rwa [<- Nat.add_assoc] at this
   ·cases hu
  refine ⟨_,fun w2 h2=>run_loadAt_mid w2 b (o+off) t _ d (zU hr (h2 b rfl)) hu hd (by rw [hl]; exact TX ht.1),?_⟩
  exact ⟨_,rfl,by simpa using h3⟩
 | none =>
  simp only [Option.getD_none] at hn
  obtain ⟨x,hx⟩:∃ x,cs[off]? = some x:=⟨cs[off]'(by omega),by simp⟩
  obtain ⟨u,hu,hf⟩:=h1.get off x hx
  have hc:=h2 off u hu
  refine ⟨u,fun w2 hw2=>?_,?_⟩
  ·have hc2:w2.cell? ⟨b,o+off,none⟩=some u:=by
    simp only [World.cell?] at hc ⊢
    rw [hw2 b rfl]
    exact hc
   simp only [Instr.loadAt,Instr.sureAddr,Sem.run_bind,Sem.run_pure,Result.andThen_ok,bG hc2 ht]
  ·have e:part cs off none=x:=by
    simp only [part]
    rw [List.headD_eq_head?_getD,List.head?_drop,hx]
    rfl
   rw [e]
   exact VA.of_VC hf
theorem rY {s:St} {a:AV} {v:Value} {cs:List AV} {off:Nat} (hs:SR H φ s.st w) (hv:VC H φ s.st a v) (h:s.behind a=some (cs,off))
  {n:Option Nat} (hn:off+n.getD 1<=cs.length) {t:TypeId} (ht:(match n with | some k=>szB P t k&&dz P t true | none=>dz P t false)=true) :
  ∃ u,(Instr.loadAt t v).run P w=.ok u w/\VA H φ s.st (part cs off n) u:=by
 obtain ⟨b,o,vs,rfl,h1,h2⟩:=gw hs hv h
 cases n with
 | some k =>
  simp only [AE] at ht
  simp only [Option.getD_some] at hn
  obtain ⟨d,hu,hd⟩:=o4 ht.2
  have h3:=(h1.drop off).take k
  have hl:((vs.drop off).take k).length=k:=by
   have:=h1.length
   simp only [List.length_take,List.length_drop]
   omega
  have hr:w.rangeAt b (o+off) ((vs.drop off).take k):=by
   intro j u hu
   rw [CA] at hu
   split at hu
   ·rw [DC] at hu
    have:=h2 _ _ hu
    rwa [<- Nat.add_assoc] at this
   ·cases hu
  refine ⟨_,run_loadAt_mid w b (o+off) t _ d hr hu hd (by rw [hl]; exact TX ht.1),?_⟩
  exact ⟨_,rfl,by simpa using h3⟩
 | none =>
  simp only [Option.getD_none] at hn
  obtain ⟨x,hx⟩:∃ x,cs[off]? = some x:=⟨cs[off]'(by omega),by simp⟩
  obtain ⟨u,hu,hf⟩:=h1.get off x hx
  have hc:=h2 off u hu
  refine ⟨u,?_,?_⟩
  ·simp only [Instr.loadAt,Instr.sureAddr,Sem.run_bind,Sem.run_pure,Result.andThen_ok,bG hc ht]
  ·have e:part cs off none=x:=by
    simp only [part]
    rw [List.headD_eq_head?_getD,List.head?_drop,hx]
    rfl
   rw [e]
   exact VA.of_VC hf
end Go.Proofs.YtfcgblnlopemkaaGreatDoor.Core

namespace Go.Proofs.YtfcgblnlopemkaaGreatDoor.Core
open Go
structure Fr (mv m0:Nat) (H0:HP) (φ0:CQ) (w0:World) (H:HP) (φ:CQ) (st:List AX) (w:World):Prop where
 os:w.os=w0.os
 tape:w.tape=w0.tape
 output:w.output=w0.output
 size:w0.heap.size<=w.heap.size
 old:∀ b,b<w0.heap.size->(∀ j,j<m0->ED (φ0 j)≠some b)->w.heap[b]? = w0.heap[b]?
 same:∀ j,j<mv->φ j=φ0 j
 new:∀ i bi,st[i]? = some bi->bi.live=true->∀ b,ED (φ i)=some b->w0.heap.size<=b\/∃ j,j<m0/\ED (φ0 j)=some b
 vars:∀ j,j<mv->Ae st j=true
 frz:∀ b,b<w0.heap.size->(∀ j,j<m0->ED (φ0 j)≠some b)->H b=H0 b
structure Ak (H:HP) (φ:CQ) (st:List AX) (w:World) (H':HP) (φ':CQ) (st':List AX) (w':World):Prop where
 le:H.le H'
 sr:SR H' φ' st' w'
 fr:∀ mv m0 H0 φ0 w0,Fr mv m0 H0 φ0 w0 H φ st w->Fr mv m0 H0 φ0 w0 H' φ' st' w'
variable {H H':HP} {φ:CQ} {st:List AX} {w w':World}
theorem Ak.refl (h:SR H φ st w):Ak H φ st w H φ st w:=⟨HP.le_refl H,h,fun _ _ _ _ _ h=>h⟩
theorem Ak.trans {H1 H2 H3:HP} {φ1 φ2 φ3:CQ} {st1 st2 st3:List AX} {w1 w2 w3:World} (h:Ak H1 φ1 st1 w1 H2 φ2 st2 w2) (g:Ak H2 φ2 st2 w2 H3 φ3 st3 w3) :
  Ak H1 φ1 st1 w1 H3 φ3 st3 w3:=⟨HP.le_trans h.le g.le,g.sr,fun mv m H0 φ0 w0 f=>g.fr mv m H0 φ0 w0 (h.fr mv m H0 φ0 w0 f)⟩
theorem Ak.grow (h:SR H φ st w) (hg:w.grownBy w' none):Ak H φ st w H φ st w' where
 le:=HP.le_refl H
 sr:=h.grow hg
 fr mv m0 H0 φ0 w0 f:=⟨hg.os.trans f.os,hg.tape.trans f.tape,hg.output.trans f.output,Nat.le_trans f.size hg.size,
  fun b hb hn=>(hg.block b (Nat.lt_of_lt_of_le hb f.size) (by simp)).trans (f.old b hb hn),f.same,f.new,f.vars,f.frz⟩
theorem Ak.push (h:SR H φ st w) {v:Value} {bx:AX} (hg:w.grownBy w' none) (hb:NN H w' v bx) (hn:bx.live=true->∀ b,ED v=some b->w.heap.size<=b)
  (hc:∀ (cs:List AV),bx=AX.var cs->∀ (o i:Nat),cs[o]? = some (AV.row i)->(AQ st i).isSome=true/\∃ b,v=.pointer (some ⟨b,0,none⟩)/\w'.cell? ⟨b,o,none⟩=some (φ i)) :
  Ak H φ st w H (fun i=>if i=st.length then v else φ i) (st++[bx]) w' where
 le:=HP.le_refl H
 sr:=(h.grow hg).push hb (fun hl b hb'=>h.fresh (hn hl b hb')) hc
 fr mv m0 H0 φ0 w0 f:=by
  refine ⟨hg.os.trans f.os,hg.tape.trans f.tape,hg.output.trans f.output,Nat.le_trans f.size hg.size,
   fun b hb hn=>(hg.block b (Nat.lt_of_lt_of_le hb f.size) (by simp)).trans (f.old b hb hn),fun j hj=>?_,fun i bi hbi hl b hb'=>?_,fun j hj=>?_,f.frz⟩
  ·have:=TR (f.vars j hj)
   rw [if_neg (by omega)]
   exact f.same j hj
  ·rcases Nat.lt_trichotomy i st.length with e | e | e
   ·rw [BO e] at hbi
    simp only [Nat.ne_of_lt e,if_false] at hb'
    exact f.new i bi hbi hl b hb'
   ·subst e
    simp at hbi
    subst hbi
    simp only [if_true] at hb'
    exact .inl (Nat.le_trans f.size (hn hl b hb'))
   ·rw [Dn (by simp; omega)] at hbi; cases hbi
  ·have:=f.vars j hj
   have hl:=TR this
   unfold Ae at this ⊢
   rw [BO hl]
   exact this
theorem Ak.update (h:SR H φ st w) {id:Nat} {bx bx':AX} {v':Value} (hid:st[id]? = some bx) (hl:bx.live=true) (hg:w.grownBy w' (ED (φ id)))
  (hb:NN H w' v' bx') (hn:∀ b,ED v'=some b->ED (φ id)=some b\/w.heap.size<=b) (hsame:(bx'.hold=true/\v'=φ id)\/Ae st id=false)
  (hr:∀ (k:Nat) (cs:List AV),st[k]? = some (AX.var cs)->∀ (o:Nat),cs[o]? = some (AV.row id)->v'=φ id/\(AQ (st.set id bx') id).isSome=true)
  (hc:∀ (cs:List AV),bx'=AX.var cs->∀ (o i:Nat),cs[o]? = some (AV.row i)->i≠id/\(AQ st i).isSome=true/\∃ b,v'=.pointer (some ⟨b,0,none⟩)/\w'.cell? ⟨b,o,none⟩=some (φ i)) :
  Ak H φ st w H (fun i=>if i=id then v' else φ i) (st.set id bx') w' where
 le:=HP.le_refl H
 sr:=h.update hid hl hg hb hn hr hc
 fr mv m0 H0 φ0 w0 f:=by
  have hlt:id<st.length:=(As.1 hid).1
  have hm:Ae st id=false->mv<=id:=fun e=>by
   rcases CF id mv with hi | hi
   ·have:=f.vars id hi; rw [e] at this; cases this
   ·exact hi
  refine ⟨hg.os.trans f.os,hg.tape.trans f.tape,hg.output.trans f.output,Nat.le_trans f.size hg.size,fun b hb' hn'=>?_,fun j hj=>?_,fun i bi hbi hli b hb'=>?_,fun j hj=>?_,f.frz⟩
  ·rw [hg.block b (Nat.lt_of_lt_of_le hb' f.size) (fun e=>?_)]
   ·exact f.old b hb' hn'
   ·rcases f.new id bx hid hl b e.symm with g | ⟨j,g1,g2⟩
    ·omega
    ·exact hn' j g1 g2
  ·by_cases e:j=id
   ·subst e
    rcases hsame with ⟨_,e2⟩ | e2
    ·rw [if_pos rfl,e2]; exact f.same j hj
    ·have:=hm e2; omega
   ·rw [if_neg e]; exact f.same j hj
  ·by_cases e:i=id
   ·subst e
    simp only [if_true] at hb'
    rcases hn b hb' with e2 | e2
    ·exact f.new i bx hid hl b e2
    ·exact .inl (Nat.le_trans f.size e2)
   ·rw [BK,if_neg (Ne.symm e)] at hbi
    simp only [e,if_false] at hb'
    exact f.new i bi hbi hli b hb'
  ·by_cases e:j=id
   ·subst e
    rcases hsame with ⟨e2,_⟩ | e2
    ·unfold Ae; rw [BK]; simp [hlt,e2]
    ·have:=hm e2; omega
   ·have:=f.vars j hj
    unfold Ae at this ⊢
    rw [BK,if_neg (Ne.symm e)]
    exact this
theorem Ak.freeze (h:SR H φ st w) {id:Nat} {t:TypeId} {K:Kd} {xs:List K.T} (hid:st[id]? = some (.rows t K xs)) :
  ∃ H',Ak H φ st w H' φ (st.set id (.frz K xs)) w/\dN (Gj H' K) K.sz H' xs (φ id)/\∀ b,ED (φ id)≠some b->H' b=H b:=by
 obtain ⟨H',h1,h2,h3,h4⟩:=h.freeze hid
 have hlt:id<st.length:=(As.1 hid).1
 refine ⟨H',⟨h1,h2,fun mv m0 H0 φ0 w0 f=>⟨f.os,f.tape,f.output,f.size,f.old,f.same,fun i bi hbi hli=>?_,fun j hj=>?_,fun b hb hn=>?_⟩⟩,h3,h4⟩
 ·by_cases e:i=id
  ·subst e
   rw [BK] at hbi
   simp [hlt] at hbi
   subst hbi
   cases hli
  ·rw [BK,if_neg (Ne.symm e)] at hbi
   exact f.new i bi hbi hli
 ·have hv:=f.vars j hj
  by_cases e:j=id
  ·subst e; unfold Ae at hv; rw [hid] at hv; cases hv
  ·unfold Ae at hv ⊢
   rw [BK,if_neg (Ne.symm e)]
   exact hv
 ·rw [h4 b fun e=>?_]
  ·exact f.frz b hb hn
  ·rcases f.new id _ hid rfl b e with g | ⟨j,g1,g2⟩
   ·omega
   ·exact hn j g1 g2
theorem Ak.kill (h:SR H φ st w) (ids:List Nat):Ak H φ st w H φ (st.map (AX.kill ids)) w where
 le:=HP.le_refl H
 sr:=h.kill ids
 fr mv m0 H0 φ0 w0 f:=by
  refine ⟨f.os,f.tape,f.output,f.size,f.old,f.same,fun i bi hbi hli=>?_,fun j hj=>?_,f.frz⟩
  ·rw [Cd] at hbi
   cases hb:st[i]? with
   | none=>rw [hb] at hbi; cases hbi
   | some b0 =>
    rw [hb] at hbi
    cases hbi
    exact f.new i b0 hb (by cases b0<;>exact hli)
  ·rw [HM (Ai ids)]; exact f.vars j hj
theorem Ak.pick (h:SR H φ st w) {φ2:CQ} {st2:List AX} (μ:Nat->Nat) (hb:∀ (k:Nat) (b2:AX),st2[k]? = some b2->NN H w (φ2 k) b2)
  (hl:∀ (k:Nat) (b2:AX),st2[k]? = some b2->b2.live=true->ED (φ2 k)=none\/∃ b,st[μ k]? = some b/\b.live=true/\φ2 k=φ (μ k))
  (inj:∀ (k k':Nat) (b2 b2':AX),st2[k]? = some b2->st2[k']? = some b2'->b2.live=true->b2'.live=true->ED (φ2 k)≠none->ED (φ2 k')≠none->μ k=μ k'->k=k')
  (hc:∀ (id:Nat) (cs:List AV),st2[id]? = some (AX.var cs)->∀ (o i:Nat),cs[o]? = some (AV.row i)->(AQ st2 i).isSome=true/\∃ b,φ2 id=.pointer (some ⟨b,0,none⟩)/\w.cell? ⟨b,o,none⟩=some (φ2 i)) :
  SR H φ2 st2 w:=by
 refine ⟨h.hp,hb,fun i j bi bj hi hj li lj hij b hbi hbj=>?_,fun i bi hi li b hbi=>?_,hc,h.tb⟩
 ·rcases hl i bi hi li with e | ⟨b1,g1,g2,g3⟩
  ·rw [e] at hbi; cases hbi
  rcases hl j bj hj lj with e | ⟨b2,k1,k2,k3⟩
  ·rw [e] at hbj; cases hbj
  have hne:μ i≠μ j:=fun e=>hij (inj i j bi bj hi hj li lj (by rw [hbi]; simp) (by rw [hbj]; simp) e)
  rw [g3] at hbi
  rw [k3] at hbj
  exact h.sep _ _ b1 b2 g1 k1 g2 k2 hne b hbi hbj
 ·rcases hl i bi hi li with e | ⟨b1,g1,g2,g3⟩
  ·rw [e] at hbi; cases hbi
  rw [g3] at hbi
  exact h.out _ b1 g1 g2 b hbi
theorem Ak.ghost (h:SR H φ st w) {φ2:CQ} {st2:List AX} (μ:Nat->Nat) (hsr:SR H φ2 st2 w)
  (hl:∀ (k:Nat) (b2:AX),st2[k]? = some b2->b2.live=true->ED (φ2 k)=none\/∃ b,st[μ k]? = some b/\b.live=true/\φ2 k=φ (μ k))
  (hv:∀ j,Ae st j=true->φ2 j=φ j/\Ae st2 j=true):Ak H φ st w H φ2 st2 w where
 le:=HP.le_refl H
 sr:=hsr
 fr mv m0 H0 φ0 w0 f:=by
  refine ⟨f.os,f.tape,f.output,f.size,f.old,fun j hj=>(hv j (f.vars j hj)).1.trans (f.same j hj),fun i bi hi li b hb=>?_,fun j hj=>(hv j (f.vars j hj)).2,f.frz⟩
  rcases hl i bi hi li with e | ⟨b1,g1,g2,g3⟩
  ·rw [e] at hb; cases hb
  ·rw [g3] at hb
   exact f.new _ b1 g1 g2 b hb
theorem YK {s s':St} {a a':AV} {v:Value} (hs:SR H φ s.st w) (hv:VC H φ s.st a v) (h:s.keep a=some (a',s')) :
  ∃ H',Ak H φ s.st w H' φ s'.st w/\CD φ s.st φ s'.st none/\VF H' a' v/\s'.fr=s.fr/\s'.st.length=s.st.length:=by
 cases a with
 | int k n=>cases h; exact ⟨H,Ak.refl hs,CD.refl _ _ _,hv,rfl,rfl⟩
 | bool b=>cases h; exact ⟨H,Ak.refl hs,CD.refl _ _ _,hv,rfl,rfl⟩
 | str b=>cases h; exact ⟨H,Ak.refl hs,CD.refl _ _ _,hv,rfl,rfl⟩
 | nil=>cases h; exact ⟨H,Ak.refl hs,CD.refl _ _ _,hv,rfl,rfl⟩
 | lst K xs=>cases h; exact ⟨H,Ak.refl hs,CD.refl _ _ _,hv,rfl,rfl⟩
 | fn f caps =>
  cases caps with
  | nil=>cases h; exact ⟨H,Ak.refl hs,CD.refl _ _ _,hv,rfl,rfl⟩
  | cons _ _=>cases h
 | clo f K x=>cases h; exact ⟨H,Ak.refl hs,CD.refl _ _ _,hv,rfl,rfl⟩
 | row id =>
  simp only [St.keep] at h
  obtain ⟨e,_⟩:=hv
  subst e
  cases hb:s.st[id]? with
  | none=>rw [hb] at h; cases h
  | some bx =>
   rw [hb] at h
   cases bx with
   | rows t K xs =>
    cases h
    obtain ⟨H',h1,h3,_⟩:=Ak.freeze hs hb
    exact ⟨H',h1,lw hb,h3,rfl,by simp⟩
   | frz K xs =>
    cases h
    exact ⟨H,Ak.refl hs,CD.refl _ _ _,(hs.box id _ hb).1,rfl,rfl⟩
   | mrow t K xs=>cases h
   | byt t xs=>cases h
   | var cs=>cases h
   | dead=>cases h
 | _=>cases h
theorem S9:∀ {aw aw':List AV} {s s':St} {H:HP} {vs:List Value},SR H φ s.st w->Az (VC H φ s.st) aw vs->s.keepAll aw=some (aw',s') ->
  ∃ H',Ak H φ s.st w H' φ s'.st w/\CD φ s.st φ s'.st none/\Jz H' aw' vs/\s'.fr=s.fr/\s'.st.length=s.st.length
 | [],aw',s,s',H,vs,hs,hv,h=>by
  cases h
  cases hv
  exact ⟨H,Ak.refl hs,CD.refl _ _ _,rfl,rfl,rfl⟩
 | a::aw,aw',s,s',H,vs,hs,hv,h=>by
  obtain ⟨v,r,rfl,h1,h2⟩:=hv
  simp only [St.keepAll] at h
  cases hk:s.keep a with
  | none=>rw [hk] at h; cases h
  | some x =>
   obtain ⟨a',s1⟩:=x
   rw [hk] at h
   simp only [AA] at h
   obtain ⟨H1,g1,k1,f1,e1,n1⟩:=YK hs h1 hk
   cases hq:s1.keepAll aw with
   | none=>rw [hq] at h; cases h
   | some y =>
    obtain ⟨b',s2⟩:=y
    rw [hq] at h
    cases h
    obtain ⟨H2,g2,k2,f2,e2,n2⟩:=S9 g1.sr (h2.imp fun _ _ h=>h.mono g1.le k1) hq
    exact ⟨H2,g1.trans g2,k1.trans k2,⟨v,r,rfl,f1.mono g2.le,f2⟩,e2.trans e1,n2.trans n1⟩
theorem NO {a:AV} {aw':List AV} {s s':St} {v:Value} (hs:SR H φ s.st w) (hv:VA H φ s.st a v) (h:s.keepAll a.cells=some (aw',s')) :
  ∃ H',Ak H φ s.st w H' φ s'.st w/\CD φ s.st φ s'.st none/\Jz H' aw' v.cells.toList/\s'.fr=s.fr/\s'.st.length=s.st.length:=by
 rcases hv.cases with ⟨cs,arr,rfl,rfl,hc⟩ | ⟨vs,arr,rfl,_,_⟩ | hc
 ·exact S9 hs hc h
 ·simp [AV.cells,St.keepAll,St.keep] at h
 ·have hcell:a.cells=[a]:=by
   cases a<;>first | rfl | exact hc.elim
  rw [hcell] at h
  obtain ⟨H',g,k,f,e,n⟩:=S9 (vs:=[v]) hs (show Az (VC H φ s.st) [a] [v] from ⟨v,[],rfl,hc,rfl⟩) h
  refine ⟨H',g,k,?_,e,n⟩
  cases aw' with
  | nil=>cases f
  | cons b bs =>
   obtain ⟨v',r,e1,e2,e3⟩:=f
   cases e1
   rw [e2.cells]
   exact ⟨v,[],rfl,e2,e3⟩
theorem VF.oneCell {a:AV} {v:Value} (h:VF H a v):v.oneCell'=true:=by
 cases a with
 | int k n=>simp only [VF] at h; subst h; rfl
 | bool b=>simp only [VF] at h; subst h; rfl
 | str s=>simp only [VF] at h; subst h; rfl
 | nil=>simp only [VF] at h; subst h; rfl
 | lst K xs=>obtain ⟨a,cap,e,_⟩:=h; subst e; rfl
 | fn f caps=>obtain ⟨_,e⟩:=h; subst e; rfl
 | clo f K x=>obtain ⟨b,o,c,el,fz,e,_⟩:=h; subst e; rfl
 | _=>exact h.elim
theorem Jz.oneCell:∀ {aw:List AV} {vs:List Value},Jz H aw vs->∀ v∈vs,v.oneCell'=true
 | [],_,h,v,hv=>by cases h; cases hv
 | _::_,_,⟨u,r,e,h,hr⟩,v,hv=>by
  subst e
  cases hv with
  | head=>exact h.oneCell
  | tail _ hm=>exact Jz.oneCell hr v hm
end Go.Proofs.YtfcgblnlopemkaaGreatDoor.Core

namespace Go.Proofs.YtfcgblnlopemkaaGreatDoor.Core
open Go
variable {H:HP} {φ:CQ} {st:List AX} {w:World} {P:Program}
theorem VS:∀ (aw cs:List AV) (o:Nat),o+aw.length<=cs.length->putCells cs o aw=cs.take o++aw++cs.drop (o+aw.length)
 | [],cs,o,_=>by simp [putCells]
 | a::aw,cs,o,h=>by
  simp only [List.length_cons] at h
  simp only [putCells]
  rw [VS aw (cs.set o a) (o+1) (by simp; omega)]
  have ho:o<cs.length:=by omega
  have e1:(cs.set o a).take (o+1)=cs.take o++[a]:=by
   apply List.ext_getElem?
   intro i
   rcases Nat.lt_trichotomy i o with e | e | e
   ·simp [CA,List.getElem?_append,e,Nat.lt_succ_of_lt e,BK,Nat.ne_of_gt e,show i<min o cs.length by omega]
   ·subst e; simp [CA,List.getElem?_append,BK,ho,show ¬ i<min i cs.length by omega,show i-min i cs.length=0 by omega]
   ·rw [Dn (by simp; omega),Dn (by simp; omega)]
  have e2:(cs.set o a).drop (o+1+aw.length)=cs.drop (o+(aw.length+1)):=by
   apply List.ext_getElem?
   intro i
   simp only [DC,BK]
   rw [if_neg (by omega)]
   congr 1
   omega
  rw [e1,e2]
  simp
theorem Jz.splice {aw cs:List AV} {vs us:List Value} {o:Nat} (h:Jz H cs us) (g:Jz H aw vs) (ho:o+aw.length<=cs.length) :
  Jz H (putCells cs o aw) (us.take o++vs++us.drop (o+vs.length)):=by
 rw [VS aw cs o ho,g.length]
 exact ((h.take o).append g).append (h.drop _)
theorem Dq {α:Type} (l vs:List α) (o k:Nat) (h:o+vs.length<=l.length) :
  (l.take o++vs++l.drop (o+vs.length))[k]? = if k<o then l[k]? else if k<o+vs.length then vs[k-o]? else l[k]? := by
 rcases CF k o with h1 | h1
 ·rw [if_pos h1,Bf,BO (by simp; omega),CA,if_pos h1]
 ·rw [if_neg (by omega),Bf,Cs (by simp; omega)]
  simp only [List.length_take,Nat.min_eq_left (show o<=l.length by omega)]
  rcases CF k (o+vs.length) with h2 | h2
  ·rw [if_pos h2,BO (by omega)]
  ·rw [if_neg (by omega),Cs (by omega),DC]
   congr 1
   omega
theorem Iy {α:Type} (l vs:List α) (o:Nat) (h:o+vs.length<=l.length):(l.take o++vs++l.drop (o+vs.length)).length=l.length:=by
 simp; omega
theorem aM:∀ (K:Kd) (x:K.T),(K.enc x).length=K.sz
 | .int _,_=>rfl
 | .bool,_=>rfl
 | .str,_=>rfl
 | .slice _,_=>rfl
 | .pair a b,x=>by simp [Kd.enc,Kd.sz,aM a,aM b]
 | .own _ _,_=>rfl
 | .ref _,_=>rfl
 | .fun _,_=>rfl
 | .clo _ _,_=>rfl
theorem NP (w:World) (b:Nat) (cs:Array Value):w.grownBy (w.setRow b cs) (some b) where
 os:=rfl
 tape:=rfl
 output:=rfl
 size:=by simp
 block k _ hne:=setRow_other w b k cs (fun e=>hne (by rw [e]))
theorem aN {b o:Nat} {t el:TypeId} {v:Value} {cur:Array Value} (hg:w.heap[b]? = some (.cells cur el (0,0))) (hsz:szB P t v.cells.size=true)
  (hl:o+v.cells.size<=cur.size) (h1:∀ u∈v.cells.toList,u.oneCell'=true) :
  (Instr.storeAt t (.pointer (some ⟨b,o,none⟩)) v).run P w =
   .ok () (w.setRow b (cur.toList.take o++v.cells.toList++cur.toList.drop (o+v.cells.toList.length)).toArray):=by
 have:=run_storeCells_at P b o el v.cells.toList 0 cur w hg (by simpa using hl) h1
 have hs:=TX hsz
 cases hq:P.info? t with
 | none=>simp [hq] at hs
 | some i =>
  have hs:i.size=v.cells.size:=by simpa [hq] using hs
  simp only [Nat.add_zero] at this
  simp [Instr.storeAt,Instr.sureAddr,storeVar,sizeOf,typeInfo,hq,hs,this]
theorem QL (w:World) (p:Addr) (v:Value):w.grownBy (w.setCell p v) (some p.block) :=
 ⟨rfl,rfl,rfl,by simp [World.setCell],fun k _ hk=>RowKit.Below.heap_setCell _ _ _ _ (fun e=>hk (by simp [e]))⟩
theorem zW {b o:Nat} {t el:TypeId} {v u:Value} {cur:Array Value} {fz:Nat×Nat} (hg:w.heap[b]? = some (.cells cur el fz)) (hsz:szB P t v.cells.size=true)
  (hv:v.cells=#[u]) (hl:o<cur.size) (hf:o<fz.1) (h1:u.oneCell'=true) :
  (Instr.storeAt t (.pointer (some ⟨b,o,none⟩)) v).run P w=.ok () (w.setCell ⟨b,o,none⟩ u):=by
 have:=run_storeCells_cells (P:=P) b o [u] 0 w (fun j hj=>by
  have:j=0:=by simpa using hj
  subst this
  simp [World.cell?,hg,hl]) (fun j hj=>by
  have:j=0:=by simpa using hj
  subst this
  obtain ⟨lo,hi⟩:=fz
  simp only [World.frozen?,hg]
  simp only [Nat.add_zero] at hf ⊢
  simp; omega) (by simpa using h1)
 have hs:=TX hsz
 cases hq:P.info? t with
 | none=>simp [hq] at hs
 | some i =>
  have hs:i.size=v.cells.size:=by simpa [hq] using hs
  rw [hv] at hs
  simp only [Nat.add_zero] at this
  simp [Instr.storeAt,Instr.sureAddr,storeVar,sizeOf,typeInfo,hq,hs,hv,this,World.setCells]
theorem AC6 (hs:SR H φ st w) {id:Nat} (h:(AQ st id).isSome=true):∃ a n c,φ id=.slice a n c:=by
 unfold AQ at h
 split at h
 ·rename_i t K xs hb
  obtain ⟨flat,ho,_⟩:=hs.box id _ hb
  rcases ho.2 with ⟨e,_⟩ | ⟨g,cap,cur,e,_⟩<;>rw [e]<;>exact ⟨_,_,_,rfl⟩
 ·rename_i K xs hb
  obtain ⟨⟨a,cap,e,_⟩,_⟩:=hs.box id _ hb
  rw [e]; exact ⟨_,_,_,rfl⟩
 ·rename_i t K xs hb
  obtain ⟨flat,ho,_⟩:=hs.box id _ hb
  rcases ho.2 with ⟨e,_⟩ | ⟨g,cap,cur,e,_⟩<;>rw [e]<;>exact ⟨_,_,_,rfl⟩
 ·rename_i t xs hb
  obtain ⟨g,cap,e,_⟩:=zR.flat (hs.box id _ hb)
  exact ⟨_,_,_,e⟩
 ·cases h
theorem uL {st:List AX} (hs:SR H φ st w) {a:AV} {v:Value} (hg:a.good=true) (h:VC H φ st a v):v.oneCell'=true/\v.cells=#[v]:=by
 cases a with
 | row id =>
  obtain ⟨e,hk⟩:=h
  obtain ⟨a,n,c,e2⟩:=AC6 hs hk
  rw [e,e2]
  exact ⟨rfl,rfl⟩
 | int k n=>exact ⟨VF.oneCell (H:=H) (a:=.int k n) h,VF.cells (H:=H) (a:=.int k n) h⟩
 | bool b=>exact ⟨VF.oneCell (H:=H) (a:=.bool b) h,VF.cells (H:=H) (a:=.bool b) h⟩
 | str s=>exact ⟨VF.oneCell (H:=H) (a:=.str s) h,VF.cells (H:=H) (a:=.str s) h⟩
 | nil=>exact ⟨VF.oneCell (H:=H) (a:=.nil) h,VF.cells (H:=H) (a:=.nil) h⟩
 | lst K xs=>exact ⟨VF.oneCell (H:=H) (a:=.lst K xs) h,VF.cells (H:=H) (a:=.lst K xs) h⟩
 | fn f caps=>exact ⟨VF.oneCell (H:=H) (a:=.fn f caps) h,VF.cells (H:=H) (a:=.fn f caps) h⟩
 | clo f K x=>exact ⟨VF.oneCell (H:=H) (a:=.clo f K x) h,VF.cells (H:=H) (a:=.clo f K x) h⟩
 | _=>cases hg
theorem ABm {ids:List Nat} {a:AV} (h:(a.kill1 ids).good=true):a.good=true:=by
 cases a with
 | row i=>rfl
 | eptr i j o=>simp only [AV.kill1] at h; split at h<;>cases h
 | _=>first | exact h | cases h
theorem yi {s:St} {v:AV} {x:AV×St} (h:s.keep v=some x):v.good=true:=by
 cases v with
 | fn f caps=>cases caps<;>first | rfl | (simp [St.keep] at h)
 | _=>first | rfl | (simp [St.keep] at h)
theorem lx {s:St} {i:Nat} {v:AV} {x:AV×St×List Nat} (h:s.intoRow i v=some x):v.good=true:=by
 cases v<;>first | rfl | (simp [St.intoRow] at h)
theorem AC7 {s:St} {own:Bool} {c v:AV} {x:AV×St×List Nat} (h:s.into own c v=some x):v.good=true:=by
 unfold St.into at h
 split at h
 ·exact lx h
 ·exact lx h
 ·split at h
  ·split at h
   ·rfl
   ·split at h
    ·rename_i hs; cases v<;>first | rfl | exact hs
    ·cases h
  ·cases hk:s.keep v with
   | none=>rw [hk] at h; cases h
   | some y=>exact yi hk
theorem aO:∀ {cs vs:List AV} {s:St} {own:Bool} {x:List AV×St×List Nat},s.intoAll own cs vs=some x->cs.length=vs.length/\x.1.length=vs.length/\∀ v∈vs,v.good=true
 | [],[],s,own,x,h=>by cases h; simp
 | [],_::_,s,own,x,h=>by simp [St.intoAll] at h
 | _::_,[],s,own,x,h=>by simp [St.intoAll] at h
 | c::cs,v::vs,s,own,x,h=>by
  simp only [St.intoAll] at h
  cases h1:s.into own c v with
  | none=>rw [h1] at h; cases h
  | some y =>
   rw [h1] at h
   simp only [AA] at h
   cases h2:y.2.1.intoAll own cs (vs.map (AV.kill1 y.2.2)) with
   | none=>rw [h2] at h; cases h
   | some z =>
    rw [h2] at h
    simp only [AA] at h
    split at h
    ·cases h
    ·cases h
     obtain ⟨l1,l2,l3⟩:=aO h2
     simp only [List.length_map] at l1 l2
     refine ⟨by simp [l1],by simp [l2],fun u hu=>?_⟩
     rcases BF.1 hu with rfl | hu
     ·exact AC7 h1
     ·exact ABm (l3 _ (List.mem_map_of_mem hu))
theorem C7.of_keeps {φ φ':CQ} {st st':List AX} (h:CD φ st φ' st' none):C7 φ st φ' st' [] :=
 ⟨fun id _ hd=>let ⟨a,b,c,_⟩:=h id (by simp) hd; ⟨a,b,c⟩,fun id hv=>h.hold id hv⟩
theorem VT (a b:List Nat) (i:Nat):CB (a++b) i=(CB a i||CB b i):=by
 induction a with
 | nil=>simp [CB]
 | cons x r ih=>simp only [List.cons_append,CB]; split<;>simp [ih]
theorem C7.trans {φ φ' φ'':CQ} {st st' st'':List AX} {a b:List Nat} (h:C7 φ st φ' st' a) (g:C7 φ' st' φ'' st'' b):C7 φ st φ'' st'' (a++b):=by
 refine ⟨fun id hn hd=>?_,fun id hv=>?_⟩
 ·rw [VT,Bool.or_eq_false_iff] at hn
  obtain ⟨h1,h2,h3⟩:=h.1 id hn.1 hd
  obtain ⟨g1,g2,g3⟩:=g.1 id hn.2 (by rw [h2,h3]; exact hd)
  exact ⟨g1.trans h1,g2.trans h2,g3.trans h3⟩
 ·obtain ⟨h1,h2,h3⟩:=h.2 id hv
  obtain ⟨g1,g2,g3⟩:=g.2 id h2
  exact ⟨g1.trans h1,g2,g3.trans h3⟩
theorem VC.kill_mono {H':HP} {φ':CQ} {st st':List AX} {ids:List Nat} (hH:H.le H') (hk:C7 φ st φ' st' ids) {a:AV} {v:Value} (h:VC H φ st a v):VC H' φ' st' (a.kill1 ids) v :=
 (h.mono hH (CD.refl φ st none)).kill hk
theorem ly {s s':St} {i:Nat} {v a:AV} {ids:List Nat} {u:Value} (hs:SR H φ s.st w) (hv:VC H φ s.st v u) (h:s.intoRow i v=some (a,s',ids)) :
  ∃ φ',Ak H φ s.st w H φ' s'.st w/\C7 φ s.st φ' s'.st ids/\a=.row i/\(AQ s'.st i).isSome=true/\u=φ' i /\
   (∀ tmps,HR H φ s.st s.fr tmps->HR H φ' s'.st s'.fr tmps):=by
 have rowNot:∀ {t:TypeId} {K:Kd} {xs:List K.T} {k:Nat},s.st[k]? = some (.rows t K xs)->Ae s.st k=false:=fun {t K xs k} e=>by simp only [Ae,e]; rfl
 cases v with
 | row k =>
  simp only [St.intoRow] at h
  split at h
  ·rename_i e
   cases h
   subst e
   exact ⟨φ,Ak.refl hs,.of_keeps (CD.refl _ _ _),rfl,hv.2,hv.1,fun _ h=>h⟩
  ·rename_i hne
   split at h
   ·rename_i t K xs hk
    split at h
    ·rename_i hi
     cases h
     have hki:k≠i:=hne
     have li:i<s.st.length:=by
      rcases CF i s.st.length with h | h
      ·exact h
      ·rw [Dn h] at hi; cases hi
     have hnv:Ae s.st i=false:=by
      unfold Ae
      cases hb:s.st[i]? with
      | none=>rfl
      | some b=>rw [hb] at hi; cases b<;>first | rfl | cases hi
     have lk:k<s.st.length:=(As.1 hk).1
     let st2:=((s.st.map (AX.kill [i,k])).set i (.rows t K xs)).set k .dead
     let φ2:CQ:=fun j=>if j=i then φ k else φ j
     let μ:Nat->Nat:=fun j=>if j=i then k else j
     have gi:st2[i]? = some (.rows t K xs):=by
      simp only [st2]; rw [BK,if_neg hki,BK]; simp [li]
     have gk:st2[k]? = some .dead:=by
      simp only [st2]; rw [BK]; simp [lk]
     have go:∀ j,j≠i->j≠k->st2[j]? = (s.st.map (AX.kill [i,k]))[j]? := fun j h1 h2=>by
      simp only [st2]; rw [BK,if_neg (Ne.symm h2),BK,if_neg (Ne.symm h1)]
     have hsk:=hs.kill [i,k]
     have hl:∀ j b2,st2[j]? = some b2->b2.live=true->ED (φ2 j)=none\/∃ b,s.st[μ j]? = some b/\b.live=true/\φ2 j=φ (μ j):=by
      intro j b2 hj hlv
      right
      by_cases e1:j=i
      ·subst e1
       exact ⟨_,by simpa [μ] using hk,rfl,by simp [φ2,μ]⟩
      ·by_cases e2:j=k
       ·subst e2; rw [gk] at hj; cases hj; cases hlv
       ·rw [go j e1 e2,Cd] at hj
        cases hb:s.st[j]? with
        | none=>rw [hb] at hj; cases hj
        | some b0 =>
         rw [hb] at hj
         cases hj
         exact ⟨b0,by simpa [μ,e1] using hb,by cases b0<;>exact hlv,by simp [φ2,μ,e1]⟩
     have hsr:SR H φ2 st2 w:=by
      refine Ak.pick hs μ (fun j b2 hj=>?_) hl (fun j j' b2 b2' hj hj' l1 l2 _ _ e=>?_) (fun j cs hj o q hq=>?_)
      ·by_cases e1:j=i
       ·subst e1
        rw [gi] at hj
        cases hj
        simpa [φ2] using hs.box k _ hk
       ·by_cases e2:j=k
        ·subst e2; rw [gk] at hj; cases hj; trivial
        ·rw [go j e1 e2] at hj
         simpa [φ2,e1] using hsk.box j b2 hj
      ·have nk:∀ j b2,st2[j]? = some b2->b2.live=true->j≠k:=fun j b2 hj l e=>by subst e; rw [gk] at hj; cases hj; cases l
       have n1:=nk j b2 hj l1
       have n2:=nk j' b2' hj' l2
       simp only [μ] at e
       by_cases e1:j=i<;>by_cases e2:j'=i
       ·rw [e1,e2]
       ·rw [if_pos e1,if_neg e2] at e; exact absurd e.symm n2
       ·rw [if_neg e1,if_pos e2] at e; exact absurd e n1
       ·rw [if_neg e1,if_neg e2] at e; exact e
      ·have e1:j≠i:=fun e=>by subst e; rw [gi] at hj; cases hj
       have e2:j≠k:=fun e=>by subst e; rw [gk] at hj; cases hj
       rw [go j e1 e2] at hj
       have hn:=TS hj hq
       obtain ⟨c1,b,c2,c3⟩:=hsk.cell j cs hj o q hq
       have q1:q≠i:=fun e=>by subst e; simp [CB] at hn
       have q2:q≠k:=fun e=>by subst e; simp [CB] at hn
       refine ⟨?_,b,by simpa [φ2,e1] using c2,by simpa [φ2,q1] using c3⟩
       unfold AQ at c1 ⊢
       rw [go q q1 q2]
       exact c1
     have hkb:C7 φ s.st φ2 st2 [i,k]:=by
      refine ⟨fun j hn _=>?_,fun j hvj=>?_⟩
      ·have q1:j≠i:=fun e=>by subst e; simp [CB] at hn
       have q2:j≠k:=fun e=>by subst e; simp [CB] at hn
       refine ⟨by simp [φ2,q1],?_,?_⟩
       ·have:AQ st2 j=AQ (s.st.map (AX.kill [i,k])) j:=by unfold AQ; rw [go j q1 q2]
        rw [this,IP (Ai _)]
       ·have:An st2 j=An (s.st.map (AX.kill [i,k])) j:=by unfold An; rw [go j q1 q2]
        rw [this,GY (Ai _)]
      ·have q1:j≠i:=fun e=>by subst e; rw [hnv] at hvj; cases hvj
       have q2:j≠k:=fun e=>by subst e; rw [rowNot hk] at hvj; cases hvj
       have t1:Ae st2 j=Ae (s.st.map (AX.kill [i,k])) j:=by unfold Ae; rw [go j q1 q2]
       have t2:An st2 j=An (s.st.map (AX.kill [i,k])) j:=by unfold An; rw [go j q1 q2]
       exact ⟨by simp [φ2,q1],by rw [t1,HM (Ai _)]; exact hvj,by rw [t2,GY (Ai _)]⟩
     refine ⟨φ2,Ak.ghost hs μ hsr hl (fun j h=>⟨(hkb.2 j h).1,(hkb.2 j h).2.1⟩),hkb,rfl,by unfold AQ; rw [gi]; rfl,by simp only [φ2,if_true]; exact hv.1,fun tmps hf=>hf.kill hkb⟩
    ·cases h
   ·cases h
 | nil =>
  simp only [St.intoRow] at h
  split at h
  ·rename_i t K xs hi
   cases h
   have li:i<s.st.length:=(As.1 hi).1
   let st2:=(s.st.map (AX.kill [i])).set i (.rows t K [])
   let φ2:CQ:=fun j=>if j=i then .slice none 0 0 else φ j
   have gi:st2[i]? = some (.rows t K []):=by simp only [st2]; rw [BK]; simp [li]
   have go:∀ j,j≠i->st2[j]? = (s.st.map (AX.kill [i]))[j]? := fun j h1=>by simp only [st2]; rw [BK,if_neg (Ne.symm h1)]
   have hsk:=hs.kill [i]
   have hl:∀ j b2,st2[j]? = some b2->b2.live=true->ED (φ2 j)=none\/∃ b,s.st[j]? = some b/\b.live=true/\φ2 j=φ j:=by
    intro j b2 hj hlv
    by_cases e1:j=i
    ·subst e1; left; simp [φ2,ED]
    ·right
     rw [go j e1,Cd] at hj
     cases hb:s.st[j]? with
     | none=>rw [hb] at hj; cases hj
     | some b0 =>
      rw [hb] at hj
      cases hj
      exact ⟨b0,rfl,by cases b0<;>exact hlv,by simp [φ2,e1]⟩
   have hsr:SR H φ2 st2 w:=by
    refine Ak.pick hs id (fun j b2 hj=>?_) hl (fun j j' b2 b2' hj hj' l1 l2 _ _ e=>e) (fun j cs hj o q hq=>?_)
    ·by_cases e1:j=i
     ·subst e1
      rw [gi] at hj
      cases hj
      refine ⟨[],⟨by simp,.inl ⟨by simp [φ2],rfl⟩⟩,fun j x hx=>by simp at hx⟩
     ·rw [go j e1] at hj
      simpa [φ2,e1] using hsk.box j b2 hj
    ·have e1:j≠i:=fun e=>by subst e; rw [gi] at hj; cases hj
     rw [go j e1] at hj
     have hn:=TS hj hq
     obtain ⟨c1,b,c2,c3⟩:=hsk.cell j cs hj o q hq
     have q1:q≠i:=fun e=>by subst e; simp [CB] at hn
     refine ⟨?_,b,by simpa [φ2,e1] using c2,by simpa [φ2,q1] using c3⟩
     unfold AQ at c1 ⊢
     rw [go q q1]
     exact c1
   have hkb:C7 φ s.st φ2 st2 [i]:=by
    refine ⟨fun j hn _=>?_,fun j hvj=>?_⟩
    ·have q1:j≠i:=fun e=>by subst e; simp [CB] at hn
     refine ⟨by simp [φ2,q1],?_,?_⟩
     ·have:AQ st2 j=AQ (s.st.map (AX.kill [i])) j:=by unfold AQ; rw [go j q1]
      rw [this,IP (Ai _)]
     ·have:An st2 j=An (s.st.map (AX.kill [i])) j:=by unfold An; rw [go j q1]
      rw [this,GY (Ai _)]
    ·have q1:j≠i:=fun e=>by subst e; rw [rowNot hi] at hvj; cases hvj
     have t1:Ae st2 j=Ae (s.st.map (AX.kill [i])) j:=by unfold Ae; rw [go j q1]
     have t2:An st2 j=An (s.st.map (AX.kill [i])) j:=by unfold An; rw [go j q1]
     exact ⟨by simp [φ2,q1],by rw [t1,HM (Ai _)]; exact hvj,by rw [t2,GY (Ai _)]⟩
   refine ⟨φ2,Ak.ghost hs id hsr hl (fun j h=>⟨(hkb.2 j h).1,(hkb.2 j h).2.1⟩),hkb,rfl,by unfold AQ; rw [gi]; rfl,by simp only [φ2,if_true]; exact hv,fun tmps hf=>hf.kill hkb⟩
  ·cases h
 | _=>simp [St.intoRow] at h
def d5 (H:HP) (φ:CQ) (st:List AX) (a:AV) (u:Value):Prop:=(∀ p el,VW H p el a u)/\∀ i,a=.row i->(AQ st i).isSome=true/\u=φ i
theorem d5.of_VF {a:AV} {u:Value} (h:VF H a u):d5 H φ st a u:=⟨fun _ _=>VW.of_VF h,fun i e=>by subst e; exact h.elim⟩
theorem d5.mono {H':HP} {φ':CQ} {st':List AX} {ids:List Nat} (hH:H.le H') (hk:C7 φ st φ' st' ids) {a:AV} {u:Value} (h:d5 H φ st a u) (hn:a.rowIn ids=false):d5 H' φ' st' a u :=
 ⟨fun p el=>(h.1 p el).mono hH,fun i e=>by
  subst e
  obtain ⟨h1,h2⟩:=h.2 i rfl
  obtain ⟨k1,k2,_⟩:=hk.1 i hn (.inl h1)
  exact ⟨by rw [k2]; exact h1,h2.trans k1.symm⟩⟩
theorem AC8 {s s':St} {own:Bool} {c v a:AV} {ids:List Nat} {u:Value} (hs:SR H φ s.st w) (hv:VC H φ s.st v u) (h:s.into own c v=some (a,s',ids)) :
  ∃ H' φ',Ak H φ s.st w H' φ' s'.st w/\C7 φ s.st φ' s'.st ids/\d5 H' φ' s'.st a u/\(∀ tmps,HR H φ s.st s.fr tmps->HR H' φ' s'.st s'.fr tmps):=by
 have row:∀ i,s.intoRow i v=some (a,s',ids)->∃ H' φ',Ak H φ s.st w H' φ' s'.st w/\C7 φ s.st φ' s'.st ids/\d5 H' φ' s'.st a u/\(∀ tmps,HR H φ s.st s.fr tmps->HR H' φ' s'.st s'.fr tmps):=by
  intro i h
  obtain ⟨φ',h1,h2,rfl,h4,h5,h6⟩:=ly hs hv h
  exact ⟨H,φ',h1,h2,⟨fun _ _=>trivial,fun j e=>by cases e; exact ⟨h4,h5⟩⟩,h6⟩
 unfold St.into at h
 split at h
 ·exact row _ h
 ·exact row _ h
 ·split at h
  ·split at h
   ·cases h
    exact ⟨H,φ,Ak.refl hs,.of_keeps (CD.refl _ _ _),⟨fun _ _=>trivial,fun j e=>by cases e; exact ⟨hv.2,hv.1⟩⟩,fun _ h=>h⟩
   ·split at h
    ·rename_i hsol
     cases h
     exact ⟨H,φ,Ak.refl hs,.of_keeps (CD.refl _ _ _),d5.of_VF (hv.solid hsol),fun _ h=>h⟩
    ·cases h
  ·cases hk:s.keep v with
   | none=>rw [hk] at h; cases h
   | some x =>
    obtain ⟨a',s1⟩:=x
    rw [hk] at h
    cases h
    obtain ⟨H1,g1,k1,f1,e1,_⟩:=YK hs hv hk
    exact ⟨H1,φ,g1,.of_keeps k1,d5.of_VF f1,fun tmps hf=>by rw [e1]; exact hf.mono g1.le k1⟩
theorem l7:∀ {cs vs aw:List AV} {s s':St} {own:Bool} {ids:List Nat} {us:List Value} {H:HP} {φ:CQ},SR H φ s.st w->Az (VC H φ s.st) vs us->s.intoAll own cs vs=some (aw,s',ids) ->
  ∃ H' φ',Ak H φ s.st w H' φ' s'.st w/\C7 φ s.st φ' s'.st ids/\Az (d5 H' φ' s'.st) aw us/\(∀ tmps,HR H φ s.st s.fr tmps->HR H' φ' s'.st s'.fr tmps)
 | [],[],aw,s,s',own,ids,us,H,φ,hs,hv,h=>by
  cases h
  cases hv
  exact ⟨H,φ,Ak.refl hs,.of_keeps (CD.refl _ _ _),rfl,fun _ h=>h⟩
 | [],_::_,aw,s,s',own,ids,us,H,φ,hs,hv,h=>by simp [St.intoAll] at h
 | _::_,[],aw,s,s',own,ids,us,H,φ,hs,hv,h=>by simp [St.intoAll] at h
 | c::cs,v::vs,aw,s,s',own,ids,us,H,φ,hs,hv,h=>by
  obtain ⟨u,r,rfl,hu,hr⟩:=hv
  simp only [St.intoAll] at h
  cases h1:s.into own c v with
  | none=>rw [h1] at h; cases h
  | some y =>
   obtain ⟨a1,s1,i1⟩:=y
   rw [h1] at h
   simp only [AA] at h
   cases h2:s1.intoAll own cs (vs.map (AV.kill1 i1)) with
   | none=>rw [h2] at h; cases h
   | some z =>
    obtain ⟨a2,s2,i2⟩:=z
    rw [h2] at h
    simp only [AA] at h
    split at h
    ·cases h
    ·rename_i hn
     cases h
     obtain ⟨H1,φ1,g1,k1,t1,f1⟩:=AC8 hs hu h1
     obtain ⟨H2,φ2,g2,k2,t2,f2⟩:=l7 g1.sr (hr.map fun _ _ h=>h.kill_mono g1.le k1) h2
     exact ⟨H2,φ2,g1.trans g2,k1.trans k2,⟨u,r,rfl,t1.mono g2.le k2 (by simpa using hn),t2⟩,fun tmps hf=>f2 tmps (f1 tmps hf)⟩
theorem Az.splice {R:AV->Value->Prop} {aw cs:List AV} {vs us:List Value} {o:Nat} (h:Az R cs us) (g:Az R aw vs) (ho:o+aw.length<=cs.length) :
  Az R (putCells cs o aw) (us.take o++vs++us.drop (o+vs.length)):=by
 rw [VS aw cs o ho,g.length]
 exact ((h.take o).append g).append (h.drop _)
theorem AC9 {s s':St} {a a':AV} (h:s.keep a=some (a',s')) {i:Nat} {b:AX} (hi:s'.st[i]? = some b) (hl:b.live=true):s.st[i]? = some b:=by
 cases a with
 | row id =>
  simp only [St.keep] at h
  split at h
  ·cases h
   simp only [BK] at hi
   split at hi
   ·split at hi
    ·cases hi; cases hl
    ·cases hi
   ·exact hi
  ·cases h; exact hi
  ·cases h
 | fn f caps=>cases caps<;>first | (cases h; exact hi) | cases h
 | _=>first | (cases h; exact hi) | cases h
theorem S_:∀ {aw aw':List AV} {s s':St},s.keepAll aw=some (aw',s')->True/\∀ {i:Nat} {b:AX},s'.st[i]? = some b->b.live=true->s.st[i]? = some b
 | [],aw',s,s',h=>by cases h; exact ⟨trivial,fun hi _=>hi⟩
 | a::aw,aw',s,s',h=>by
  simp only [St.keepAll] at h
  cases hk:s.keep a with
  | none=>rw [hk] at h; cases h
  | some x =>
   rw [hk] at h
   simp only [AA] at h
   cases hq:x.2.keepAll aw with
   | none=>rw [hq] at h; cases h
   | some y =>
    rw [hq] at h
    cases h
    exact ⟨trivial,fun hi hl=>AC9 hk ((S_ hq).2 hi hl) hl⟩
theorem zX {s s':St} {own:Bool} {p:AV} {pv:Value} {aw:List AV} {v:Value} {t:TypeId} {tmps:Array Value} (hs:SR H φ s.st w) (hf:HR H φ s.st s.fr tmps) (hp:VC H φ s.st p pv)
  (hv:Az (VC H φ s.st) aw v.cells.toList) (h:s.storeAt own p aw=some s') (hsz:szB P t aw.length=true) :
  ∃ H' φ' w',(Instr.storeAt t pv v).run P w=.ok () w'/\Ak H φ s.st w H' φ' s'.st w'/\HR H' φ' s'.st s'.fr tmps /\
   ∀ (i:Nat) (bx:AX),s.st[i]? = some bx->bx.live=true->(∀ id,((∃ off,p=.ptr id off)\/∃ j off,p=.eptr id j off)->i≠id)->∀ b,ED (φ i)=some b->w'.heap[b]? = w.heap[b]? := by
 have aside:∀ {id i:Nat} {bi bx:AX} {b:Nat} {cs:Array Value},s.st[id]? = some bi->bi.live=true->ED (φ id)=some b->s.st[i]? = some bx->bx.live=true->i≠id->∀ b',ED (φ i)=some b'->(w.setRow b cs).heap[b']? = w.heap[b']? := by
  intro id i bi bx b cs h1 h2 h3 h4 h5 h6 b' h7
  exact (NP w b cs).block b' ((hs.box i bx h4).blk_lt h5 h7) (fun e=>by cases e; exact hs.sep i id bx bi h4 h1 h5 h2 h6 _ h7 h3)
 have hlen:v.cells.size=aw.length:=by simpa using hv.length
 cases p with
 | ptr id off =>
  obtain ⟨hva,b,e1,e2⟩:=hp
  simp only [St.storeAt] at h
  cases hb:s.st[id]? with
  | none=>rw [hb] at h; cases h
  | some bx =>
   rw [hb] at h
   cases bx with
   | var cs =>
    simp only at h
    split at h
    ·rename_i hle
     cases hq:s.intoAll own ((cs.drop off).take aw.length) aw with
     | none=>rw [hq] at h; cases h
     | some y =>
      obtain ⟨as1,s1,ids⟩:=y
      rw [hq] at h
      simp only [AA] at h
      split at h
      ·rename_i cs' hb'
       cases h
       obtain ⟨l1,l2,l3⟩:=aO hq
       obtain ⟨H1,φ1,g1,k1,t1,f1⟩:=l7 hs hv hq
       obtain ⟨hφ,_,hva1⟩:=k1.2 id (aL hva)
       have hva1:=hva1.trans hva
       have hs1:=g1.sr
       obtain ⟨b',c,el,e3,hh,hc⟩:=hs1.box id _ hb'
       rw [hφ,e1] at e3
       cases e3
       have hcl:c.size=cs'.length:=by simpa using hc.length
       have hcl0:cs'.length=cs.length:=by
        obtain ⟨b2,c2,el2,e4,hh2,hc2⟩:=hs.box id _ hb
        rw [e1] at e4
        cases e4
        rw [hh] at hh2
        cases hh2
        have:=hc.length.symm.trans hc2.length
        exact this
       have hlt:id<s1.st.length:=(As.1 hb').1
       have hone:∀ u∈v.cells.toList,u.oneCell'=true:=fun u hu=>by
        obtain ⟨j,hj,rfl⟩:=EX hu
        obtain ⟨a,ha,hva⟩:=hv.mem j _ (List.getElem?_eq_getElem hj)
        exact (uL hs (l3 a (List.mem_of_getElem? ha)) hva).1
       have hrun:=aN (P:=P) (t:=t) (v:=v) hh (by rw [hlen]; exact hsz) (o:=off) (by omega) hone
       have hl2:as1.length=aw.length:=l2
       have hle':off+as1.length<=cs'.length:=by omega
       have hkn:AQ s1.st id=none:=by simp only [AQ,hb']
       have hfit:off+v.cells.toList.length<=c.toList.length:=by simp only [Array.length_toList]; omega
       have hw':(w.setRow b (c.toList.take off++v.cells.toList++c.toList.drop (off+v.cells.toList.length)).toArray).heap[b]? = some (.cells (c.toList.take off++v.cells.toList++c.toList.drop (off+v.cells.toList.length)).toArray el (0,0)):=setRow_heap w b _ _ el (0,0) hh
       have hst:=Ak.update (w':=w.setRow b (c.toList.take off++v.cells.toList++c.toList.drop (off+v.cells.toList.length)).toArray) (v':=φ1 id) (bx':=.var (putCells cs' off as1)) hs1 hb' rfl
        (by rw [hφ,e1]; exact NP w b _)
        ⟨b,_,el,hφ.trans e1,hw',by simp only; exact hc.splice (t1.imp fun _ _ h=>h.1 _ _) hle'⟩
        (fun b hb=>.inl hb) (.inl ⟨rfl,rfl⟩)
        (fun k ck hk o ho=>by have:=(hs1.cell k ck hk o id ho).1; rw [hkn] at this; cases this)
        (fun ck hck o i ho=>by
         cases hck
         have hne:∀ {q},(AQ s1.st q).isSome=true->q≠id:=fun {q} g e=>by subst e; rw [hkn] at g; cases g
         have hcell:∀ u,(c.toList.take off++v.cells.toList++c.toList.drop (off+v.cells.toList.length))[o]? = some u ->
           (w.setRow b (c.toList.take off++v.cells.toList++c.toList.drop (off+v.cells.toList.length)).toArray).cell? ⟨b,o,none⟩=some u:=fun u hu=>by
          simp only [World.cell?,hw']
          simpa using hu
         rw [VS as1 cs' off hle',Dq _ _ _ _ hle'] at ho
         have hvl:v.cells.toList.length=as1.length:=by simp only [Array.length_toList]; omega
         by_cases h1:o<off
         ·rw [if_pos h1] at ho
          obtain ⟨c1,b3,c2,c3⟩:=hs1.cell id cs' hb' o i ho
          rw [hφ,e1] at c2
          cases c2
          refine ⟨hne c1,c1,b,hφ.trans e1,hcell _ ?_⟩
          rw [Dq _ _ _ _ hfit,if_pos h1]
          simpa [World.cell?,hh] using c3
         ·rw [if_neg h1] at ho
          by_cases h2:o<off+as1.length
          ·rw [if_pos h2] at ho
           obtain ⟨u,hu,htold⟩:=t1.get _ _ ho
           obtain ⟨c1,c2⟩:=htold.2 i rfl
           refine ⟨hne c1,c1,b,hφ.trans e1,hcell _ ?_⟩
           rw [Dq _ _ _ _ hfit,if_neg h1,if_pos (by omega),hu,c2]
          ·rw [if_neg h2] at ho
           obtain ⟨c1,b3,c2,c3⟩:=hs1.cell id cs' hb' o i ho
           rw [hφ,e1] at c2
           cases c2
           refine ⟨hne c1,c1,b,hφ.trans e1,hcell _ ?_⟩
           rw [Dq _ _ _ _ hfit,if_neg h1,if_neg (by omega)]
           simpa [World.cell?,hh] using c3)
       refine ⟨H1,_,_,by rw [e2]; exact hrun,g1.trans hst,?_,fun i bx hi hl hn b' hb'=>aside hb rfl (by rw [e1]; rfl) hi hl (hn id (.inl ⟨off,rfl⟩)) b' hb'⟩
       refine (f1 tmps hf).mono (HP.le_refl _) (gu ?_ ?_ ?_ rfl)
       ·have e4:(s1.st.set id (AX.var (putCells cs' off as1)))[id]? = some (.var (putCells cs' off as1)):=by rw [BK]; simp [hlt]
        simp only [AQ,e4,hb']
       ·have e4:(s1.st.set id (AX.var (putCells cs' off as1)))[id]? = some (.var (putCells cs' off as1)):=by rw [BK]; simp [hlt]
        simp only [An,e4,hb']
       ·have e4:(s1.st.set id (AX.var (putCells cs' off as1)))[id]? = some (.var (putCells cs' off as1)):=by rw [BK]; simp [hlt]
        simp only [Ae,e4,hb']; rfl
      ·cases h
    ·cases h
   | _=>cases h
 | eptr id i off =>
  simp only [St.storeAt] at h
  cases hq:s.keepAll aw with
  | none=>rw [hq] at h; cases h
  | some z =>
  obtain ⟨as1,s1⟩:=z
  rw [hq] at h
  simp only [AA] at h
  obtain ⟨H1,g1,k1,hv,fe,_⟩:=S9 hs hv hq
  have hp:=VC.mono g1.le k1 (a:=.eptr id i off) hp
  have hf:HR H1 φ s1.st s1.fr tmps:=by rw [fe]; exact hf.mono g1.le k1
  have hs0:=hs
  have hs:=g1.sr
  have hlen:v.cells.size=as1.length:=by simpa using hv.length
  have hsz:szB P t as1.length=true:=by rw [<- hlen,show v.cells.size=aw.length by assumption]; exact hsz
  obtain ⟨b,n,cap,K,hk,hi,e1,e2⟩:=hp
  cases hb:s1.st[id]? with
  | none=>rw [hb] at h; cases h
  | some bx =>
   rw [hb] at h
   cases bx with
   | rows t0 K' xs =>
    simp only at h
    split at h
    case isFalse=>cases h
    rename_i hoff
    simp only [AQ,hb,BT,Prod.mk.injEq] at hk
    obtain ⟨rfl,rfl⟩:=hk
    obtain ⟨flat,ho,hr⟩:=hs.box id _ hb
    have hlt:id<s1.st.length:=(As.1 hb).1
    cases hd:K'.dec (putCells (K'.enc (xs.getD i K'.zero)) off as1) with
    | none=>rw [hd] at h; cases h
    | some y =>
     obtain ⟨x',r'⟩:=y
     rw [hd] at h
     simp only [AA,BT] at h
     subst h
     rcases ho.2 with ⟨e3,hn⟩ | ⟨g,cap',cur,e3,_,hg,hc,hm,hcs,ht⟩
     ·rw [e1] at e3; cases e3
     rw [e1] at e3
     simp only [Value.slice.injEq,BT,Addr.mk.injEq] at e3
     obtain ⟨⟨rfl,_⟩,_,rfl⟩:=e3
     have hle1:(i+1)*K'.sz<=xs.length*K'.sz:=CP _ hi
     have hle2:xs.length*K'.sz<=cap*K'.sz:=CP _ hc
     rw [Nat.succ_mul] at hle1
     have hvl:v.cells.toList.length=as1.length:=by simpa using hlen
     have hfit:i*K'.sz+off+v.cells.toList.length<=cur.toList.length:=by simp only [Array.length_toList]; omega
     have hfit2:i*K'.sz+off+v.cells.toList.length<=flat.length:=by rw [ho.1]; omega
     have hrun:=aN (P:=P) (t:=t) (v:=v) hg (by rw [hlen]; exact hsz) (o:=i*K'.sz+off) (by simp only [Array.length_toList] at hfit; rw [hlen]; omega) hv.oneCell
     let flat':=flat.take (i*K'.sz+off)++v.cells.toList++flat.drop (i*K'.sz+off+v.cells.toList.length)
     have hown':(w.setRow b (cur.toList.take (i*K'.sz+off)++v.cells.toList++cur.toList.drop (i*K'.sz+off+v.cells.toList.length)).toArray).ownsRow 0 t0 K'.sz (φ id) (xs.set i x').length flat':=by
      refine ⟨?_,.inr ⟨b,cap,_,?_,Nat.zero_le _,setRow_heap w b _ _ t0 (0,0) hg,by simpa using hc,hm,?_,?_⟩⟩
      ·simp only [flat']
       rw [Iy _ _ _ hfit2]
       simpa using ho.1
      ·rw [e1]; simp
      ·simp only [List.size_toArray]
       rw [Iy _ _ _ hfit]
       simpa using hcs
      ·simp only [List.length_set]
       apply List.ext_getElem?
       intro k
       simp only [flat']
       rw [CA,Dq _ _ _ _ hfit,Dq _ _ _ _ hfit2,<- ht]
       simp only [CA]
       by_cases hk1:k<xs.length*K'.sz
       ·simp [hk1]
       ·rw [if_neg hk1]
        simp only [hk1,if_false]
        rw [if_neg (by omega),if_neg (by omega)]
     have hrep':EE H1 K' (xs.set i x') flat':=by
      intro j x hx
      by_cases hji:j=i
      ·subst hji
       rw [BK] at hx
       simp only [hi,if_true,BT] at hx
       subst hx
       have hold:xs[j]? = some (xs.getD j K'.zero):=by simp [List.getD,hi]
       have hseg:=hr j _ hold
       have henc:=Jz.of_rep hseg
       have hsp:=henc.splice hv (by rw [aM]; exact hoff)
       obtain ⟨c1,c2,f1,f2,f3⟩:=IN K' hsp hd
       have hl1:=f2.length
       have hl2:(((flat.drop (j*K'.sz)).take K'.sz).take off++v.cells.toList++((flat.drop (j*K'.sz)).take K'.sz).drop (off+v.cells.toList.length)).length=K'.sz:=by
        have:=hseg.length
        rw [Iy _ _ _ (by rw [this,hvl]; exact hoff)]
        exact this
       have hc2:c2=[]:=by
        have:=congrArg List.length f1
        rw [hl2,List.length_append,hl1] at this
        exact DD.1 (by omega)
       subst hc2
       rw [List.append_nil] at f1
       have hfinal:((flat'.drop (j*K'.sz)).take K'.sz)=c1:=by
        rw [<- f1]
        apply List.ext_getElem?
        intro k
        have hsl:=hseg.length
        rw [Dq _ _ _ _ (by rw [hsl,hvl]; exact hoff)]
        simp only [CA,DC,flat']
        rw [Dq _ _ _ _ hfit2]
        by_cases hk:k<K'.sz
        ·simp only [hk,if_true]
         by_cases h1:k<off
         ·rw [if_pos (by omega),if_pos h1]
         ·rw [if_neg (by omega),if_neg h1]
          by_cases h2:k<off+v.cells.toList.length
          ·rw [if_pos (by omega),if_pos h2]
           congr 1
           omega
          ·rw [if_neg (by omega),if_neg h2]
        ·simp only [hk,if_false]
         rw [if_neg (by omega),if_neg (by omega)]
       rw [hfinal]
       exact f2
      ·rw [BK,if_neg (Ne.symm hji)] at hx
       have hseg:=hr j x hx
       have hj:j<xs.length:=(As.1 hx).1
       have hfinal:((flat'.drop (j*K'.sz)).take K'.sz)=((flat.drop (j*K'.sz)).take K'.sz):=by
        apply List.ext_getElem?
        intro k
        simp only [CA,DC,flat']
        rw [Dq _ _ _ _ hfit2]
        by_cases hk:k<K'.sz
        ·simp only [hk,if_true]
         rcases Nat.lt_or_gt_of_ne hji with hlt' | hgt'
         ·have:(j+1)*K'.sz<=i*K'.sz:=CP _ hlt'
          rw [Nat.succ_mul] at this
          rw [if_pos (by omega)]
         ·have:(i+1)*K'.sz<=j*K'.sz:=CP _ hgt'
          rw [Nat.succ_mul] at this
          rw [if_neg (by omega),if_neg (by omega)]
        ·simp only [hk,if_false]
       rw [hfinal]
       exact hseg
     have e4:(s1.st.set id (AX.rows t0 K' (xs.set i x')))[id]? = some (.rows t0 K' (xs.set i x')):=by rw [BK]; simp [hlt]
     refine ⟨H1,fun i=>if i=id then φ id else φ i,_,by rw [e2]; exact hrun,g1.trans (Ak.update hs hb rfl ?_ ⟨flat',hown',hrep'⟩ (fun b hb=>.inl hb) (.inr (by simp only [Ae,hb]; rfl)) ?_ ?_),?_,?_⟩
     rotate_right
     ·intro i' bx' hi' hl' hn' b' hb'
      obtain ⟨_,hbr⟩:=S_ hq
      exact aside (hbr hb rfl) rfl (by rw [e1]; rfl) hi' hl' (hn' id (.inr ⟨i,off,rfl⟩)) b' hb'
     ·rw [e1]; exact NP w b _
     ·exact fun k cs _ o _=>⟨rfl,by simp only [AQ,e4]; rfl⟩
     ·exact fun cs hcs=>by cases hcs
     ·refine hf.mono (HP.le_refl _) (gu ?_ ?_ ?_ rfl)
      ·simp only [AQ,e4,hb,List.length_set]
      ·simp only [An,e4,hb]
      ·simp only [Ae,e4,hb]; rfl
   | mrow t0 K' xs =>
    simp only at h
    split at h
    case isFalse=>cases h
    rename_i hoff
    simp only [AQ,hb,BT,Prod.mk.injEq] at hk
    obtain ⟨rfl,rfl⟩:=hk
    obtain ⟨flat,ho,hr⟩:=hs.box id _ hb
    have hlt:id<s1.st.length:=(As.1 hb).1
    cases hd:K'.dec (putCells (K'.enc (xs.getD i K'.zero)) off as1) with
    | none=>rw [hd] at h; cases h
    | some y =>
     obtain ⟨x',r'⟩:=y
     rw [hd] at h
     simp only [AA,BT] at h
     subst h
     rcases ho.2 with ⟨e3,hn⟩ | ⟨g,cap',cur,e3,_,hg,hc,hm,hcs,ht⟩
     ·rw [e1] at e3; cases e3
     rw [e1] at e3
     simp only [Value.slice.injEq,BT,Addr.mk.injEq] at e3
     obtain ⟨⟨rfl,_⟩,_,rfl⟩:=e3
     have hle1:(i+1)*K'.sz<=xs.length*K'.sz:=CP _ hi
     have hle2:xs.length*K'.sz<=cap*K'.sz:=CP _ hc
     rw [Nat.succ_mul] at hle1
     have hvl:v.cells.toList.length=as1.length:=by simpa using hlen
     have hfit:i*K'.sz+off+v.cells.toList.length<=cur.toList.length:=by simp only [Array.length_toList]; omega
     have hfit2:i*K'.sz+off+v.cells.toList.length<=flat.length:=by rw [ho.1]; omega
     have hrun:=aN (P:=P) (t:=t) (v:=v) hg (by rw [hlen]; exact hsz) (o:=i*K'.sz+off) (by simp only [Array.length_toList] at hfit; rw [hlen]; omega) hv.oneCell
     let flat':=flat.take (i*K'.sz+off)++v.cells.toList++flat.drop (i*K'.sz+off+v.cells.toList.length)
     have hown':(w.setRow b (cur.toList.take (i*K'.sz+off)++v.cells.toList++cur.toList.drop (i*K'.sz+off+v.cells.toList.length)).toArray).ownsRow 0 t0 K'.sz (φ id) (xs.set i x').length flat':=by
      refine ⟨?_,.inr ⟨b,cap,_,?_,Nat.zero_le _,setRow_heap w b _ _ t0 (0,0) hg,by simpa using hc,hm,?_,?_⟩⟩
      ·simp only [flat']
       rw [Iy _ _ _ hfit2]
       simpa using ho.1
      ·rw [e1]; simp
      ·simp only [List.size_toArray]
       rw [Iy _ _ _ hfit]
       simpa using hcs
      ·simp only [List.length_set]
       apply List.ext_getElem?
       intro k
       simp only [flat']
       rw [CA,Dq _ _ _ _ hfit,Dq _ _ _ _ hfit2,<- ht]
       simp only [CA]
       by_cases hk1:k<xs.length*K'.sz
       ·simp [hk1]
       ·rw [if_neg hk1]
        simp only [hk1,if_false]
        rw [if_neg (by omega),if_neg (by omega)]
     have hrep':EE H1 K' (xs.set i x') flat':=by
      intro j x hx
      by_cases hji:j=i
      ·subst hji
       rw [BK] at hx
       simp only [hi,if_true,BT] at hx
       subst hx
       have hold:xs[j]? = some (xs.getD j K'.zero):=by simp [List.getD,hi]
       have hseg:=hr j _ hold
       have henc:=Jz.of_rep hseg
       have hsp:=henc.splice hv (by rw [aM]; exact hoff)
       obtain ⟨c1,c2,f1,f2,f3⟩:=IN K' hsp hd
       have hl1:=f2.length
       have hl2:(((flat.drop (j*K'.sz)).take K'.sz).take off++v.cells.toList++((flat.drop (j*K'.sz)).take K'.sz).drop (off+v.cells.toList.length)).length=K'.sz:=by
        have:=hseg.length
        rw [Iy _ _ _ (by rw [this,hvl]; exact hoff)]
        exact this
       have hc2:c2=[]:=by
        have:=congrArg List.length f1
        rw [hl2,List.length_append,hl1] at this
        exact DD.1 (by omega)
       subst hc2
       rw [List.append_nil] at f1
       have hfinal:((flat'.drop (j*K'.sz)).take K'.sz)=c1:=by
        rw [<- f1]
        apply List.ext_getElem?
        intro k
        have hsl:=hseg.length
        rw [Dq _ _ _ _ (by rw [hsl,hvl]; exact hoff)]
        simp only [CA,DC,flat']
        rw [Dq _ _ _ _ hfit2]
        by_cases hk:k<K'.sz
        ·simp only [hk,if_true]
         by_cases h1:k<off
         ·rw [if_pos (by omega),if_pos h1]
         ·rw [if_neg (by omega),if_neg h1]
          by_cases h2:k<off+v.cells.toList.length
          ·rw [if_pos (by omega),if_pos h2]
           congr 1
           omega
          ·rw [if_neg (by omega),if_neg h2]
        ·simp only [hk,if_false]
         rw [if_neg (by omega),if_neg (by omega)]
       rw [hfinal]
       exact f2
      ·rw [BK,if_neg (Ne.symm hji)] at hx
       have hseg:=hr j x hx
       have hj:j<xs.length:=(As.1 hx).1
       have hfinal:((flat'.drop (j*K'.sz)).take K'.sz)=((flat.drop (j*K'.sz)).take K'.sz):=by
        apply List.ext_getElem?
        intro k
        simp only [CA,DC,flat']
        rw [Dq _ _ _ _ hfit2]
        by_cases hk:k<K'.sz
        ·simp only [hk,if_true]
         rcases Nat.lt_or_gt_of_ne hji with hlt' | hgt'
         ·have:(j+1)*K'.sz<=i*K'.sz:=CP _ hlt'
          rw [Nat.succ_mul] at this
          rw [if_pos (by omega)]
         ·have:(i+1)*K'.sz<=j*K'.sz:=CP _ hgt'
          rw [Nat.succ_mul] at this
          rw [if_neg (by omega),if_neg (by omega)]
        ·simp only [hk,if_false]
       rw [hfinal]
       exact hseg
     have e4:(s1.st.set id (AX.mrow t0 K' (xs.set i x')))[id]? = some (.mrow t0 K' (xs.set i x')):=by rw [BK]; simp [hlt]
     refine ⟨H1,fun i=>if i=id then φ id else φ i,_,by rw [e2]; exact hrun,g1.trans (Ak.update hs hb rfl ?_ ⟨flat',hown',hrep'⟩ (fun b hb=>.inl hb) (.inl ⟨rfl,rfl⟩) ?_ ?_),?_,?_⟩
     rotate_right
     ·intro i' bx' hi' hl' hn' b' hb'
      obtain ⟨_,hbr⟩:=S_ hq
      exact aside (hbr hb rfl) rfl (by rw [e1]; rfl) hi' hl' (hn' id (.inr ⟨i,off,rfl⟩)) b' hb'
     ·rw [e1]; exact NP w b _
     ·exact fun k cs _ o _=>⟨rfl,by simp only [AQ,e4]; rfl⟩
     ·exact fun cs hcs=>by cases hcs
     ·refine hf.mono (HP.le_refl _) (gu ?_ ?_ ?_ rfl)
      ·simp only [AQ,e4,hb,List.length_set]
      ·simp only [An,e4,hb]
      ·simp only [Ae,e4,hb]; rfl
   | byt t0 xs =>
    simp only at h
    split at h
    case isFalse=>cases h
    rename_i hoff
    subst hoff
    split at h
    case h_2=>cases h
    rename_i c
    cases h
    simp only [AQ,hb,BT,Prod.mk.injEq] at hk
    obtain ⟨rfl,rfl⟩:=hk
    obtain ⟨g,cap',cur,fz,e3,hg,hz,hcp,hcc⟩:=hs.box id _ hb
    have hlt:id<s1.st.length:=(As.1 hb).1
    rw [e1] at e3
    cases e3
    obtain ⟨u,r,eu,hu,hr⟩:=hv
    have hr:r=[]:=hr
    subst hr
    have hu:u=.int .u8 c:=hu
    subst hu
    have hvc:v.cells=#[.int .u8 c]:=by rw [<- Array.toArray_toList (xs:=v.cells),eu]
    have hil:i<cur.size:=by
     have:=hcc i (xs[i]) (by simp)
     exact (Array.getElem?_eq_some_iff.1 this).1
    have hrun:=zW (P:=P) (t:=t) (v:=v) (o:=i) hg (by rw [hvc]; simpa using hsz) hvc hil (by omega) rfl
    have hg2:(w.setCell ⟨b,i,none⟩ (.int .u8 c)).heap[b]? = some (.cells (cur.setIfInBounds i (.int .u8 c)) t0 fz):=by simp [World.setCell,Array.getElem?_modify,hg]
    have e4:(s1.st.set id (AX.byt t0 (xs.set i c)))[id]? = some (.byt t0 (xs.set i c)):=by rw [BK]; simp [hlt]
    refine ⟨H1,fun i=>if i=id then φ id else φ i,_,by rw [e2]; simpa [Kd.sz] using hrun,g1.trans (Ak.update hs hb rfl ?_ ⟨b,cap,_,fz,by rw [e1]; simp,hg2,by simpa using hz,by simpa using hcp,fun j x hx=>?_⟩ (fun b hb=>.inl hb) (.inr (by simp only [Ae,hb]; rfl)) ?_ ?_),?_,?_⟩
    rotate_right
    ·intro i' bx' hi' hl' hn' b' hb'
     obtain ⟨_,hbr⟩:=S_ hq
     have hne:=hs0.sep i' id bx' _ hi' (hbr hb rfl) hl' rfl (hn' id (.inr ⟨i,0,rfl⟩)) b' hb'
     exact (QL w ⟨b,i,none⟩ _).block b' ((hs0.box i' bx' hi').blk_lt hl' hb') (fun e=>hne (by rw [e1]; exact e.symm))
    ·rw [e1]; exact QL w ⟨b,i,none⟩ _
    ·rw [BK] at hx
     by_cases hij:i=j
     ·subst hij
      rw [if_pos rfl,if_pos hi] at hx
      cases hx
      simp [hil]
     ·rw [if_neg hij] at hx
      have:=hcc j x hx
      simp [Array.getElem?_setIfInBounds,hij,this]
    ·exact fun k cs _ o _=>⟨rfl,by simp only [AQ,e4]; rfl⟩
    ·exact fun cs hcs=>by cases hcs
    ·refine hf.mono (HP.le_refl _) (gu ?_ ?_ ?_ rfl)
     ·simp only [AQ,e4,hb,List.length_set]
     ·simp only [An,e4,hb]
     ·simp only [Ae,e4,hb]; rfl
   | _=>cases h
 | _=>cases h

theorem o5 (base:Nat) (t ty e:TypeId) (i:TypeInfo) (size:Nat) (ht:P.underlying t=some (.slice e)) (hi:P.info? e=some i)
  (v:Value) (n c:Nat) (xs:List Value) (hown:w.ownsRow base e size v n xs):(Builtin.append_ #[t,t] ty #[v,.slice none 0 c]).run P w=.ok v w:=by
 rcases hown.2 with ⟨rfl,rfl⟩ | ⟨g,cap,cur,rfl,_,_,hnc,_⟩
 ·simp [Builtin.append_,run_underlying ht,sizeOf,typeInfo,hi,Builtin.lenOf,Builtin.firstCells]
 ·simp [Builtin.append_,run_underlying ht,sizeOf,typeInfo,hi,Builtin.lenOf,Builtin.firstCells,hnc,storeCells]
def Mz:Kd->List Value->Option (List Value)
 | .int k,.int k' n::r=>if k=k'/\n=0 then some r else none
 | .bool,.bool b::r=>if b=false then some r else none
 | .str,.string s::r=>if s=U then some r else none
 | .slice _,.slice none 0 0::r=>some r
 | .pair a b,cs=>(Mz a cs).bind (Mz b)
 | _,_=>none
theorem ADw:∀ (K:Kd) (cs r:List Value),Mz K cs=some r->∃ c,cs=c++r/\Gj H K K.zero c:=by
 intro K
 induction K with
 | int k =>
  intro cs r h
  cases cs with
  | nil=>simp [Mz] at h
  | cons v cs =>
   cases v<;>simp [Mz] at h
   obtain ⟨⟨rfl,rfl⟩,rfl⟩:=h
   exact ⟨[_],rfl,rfl⟩
 | bool =>
  intro cs r h
  cases cs with
  | nil=>simp [Mz] at h
  | cons v cs =>
   cases v<;>simp [Mz] at h
   obtain ⟨rfl,rfl⟩:=h
   exact ⟨[_],rfl,rfl⟩
 | str =>
  intro cs r h
  cases cs with
  | nil=>simp [Mz] at h
  | cons v cs =>
   cases v<;>simp [Mz] at h
   obtain ⟨rfl,rfl⟩:=h
   exact ⟨[_],rfl,rfl⟩
 | slice e ih =>
  intro cs r h
  cases cs with
  | nil=>simp [Mz] at h
  | cons v cs =>
   cases v with
   | slice a n c =>
    unfold Mz at h
    split at h
    all_goals first | cases h | skip
    all_goals (try rename_i e1 e2)
    all_goals (try cases e1)
    all_goals (try cases e2)
    all_goals first | exact ⟨[_],rfl,⟨_,rfl,YI⟩⟩ | skip
    all_goals simp_all
   | _=>simp [Mz] at h
 | pair a b iha ihb =>
  intro cs r h
  simp only [Mz] at h
  cases h1:Mz a cs with
  | none=>rw [h1] at h; cases h
  | some r1 =>
   rw [h1] at h
   simp only [AA] at h
   obtain ⟨c1,e1,g1⟩:=iha _ _ h1
   obtain ⟨c2,e2,g2⟩:=ihb _ _ h
   exact ⟨c1++c2,by rw [e1,e2,Bf],⟨c1,c2,rfl,g1,g2⟩⟩
 | own t e ih=>intro cs r h; simp [Mz] at h
 | ref K ih=>intro cs r h; simp [Mz] at h
 | «fun» f=>intro cs r h; simp [Mz] at h
 | clo f K ih=>intro cs r h; simp [Mz] at h
def elB (P:Program) (e:TypeId) (K:Kd):Bool :=
 match P.info? e with
 | some i=>i.size==K.sz&&decide (i.bytes<=2048)&&(match i.zero.map fun z=>Mz K z.cells.toList with | some (some [])=>true | _=>false)
 | none=>false
theorem YL {e:TypeId} {K:Kd} (h:elB P e K=true):∃ i z,P.info? e=some i/\i.zero=some z/\i.size=K.sz/\i.bytes<=2048/\z.cells.size=K.sz/\∀ H,Gj H K K.zero z.cells.toList:=by
 unfold elB at h
 cases hi:P.info? e with
 | none=>rw [hi] at h; cases h
 | some i =>
  rw [hi] at h
  simp only [AE,beq_iff_eq,decide_eq_true_eq] at h
  obtain ⟨⟨h1,h2⟩,h3⟩:=h
  cases hz:i.zero with
  | none=>rw [hz] at h3; cases h3
  | some z =>
   rw [hz] at h3
   simp only [Option.map_some] at h3
   have hq:Mz K z.cells.toList=some []:=by
    split at h3
    ·rename_i e; simpa using e
    ·cases h3
   have hr:∀ H,Gj H K K.zero z.cells.toList:=fun H=>by
    obtain ⟨c,e1,e2⟩:=ADw (H:=H) K _ _ hq
    rw [List.append_nil] at e1
    rw [e1]
    exact e2
   refine ⟨i,z,rfl,hz,h1,h2,?_,hr⟩
   have:=(hr fun _=>none).length
   simpa using this
theorem Iz {K:Kd} {xs ys:List K.T} {f g:List Value} (hf:EE H K xs f) (hl:f.length=xs.length*K.sz) (hg:EE H K ys g):EE H K (xs++ys) (f++g):=by
 intro j x hx
 rcases CF j xs.length with hj | hj
 ·rw [BO hj] at hx
  have:=hf j x hx
  have hle:(j+1)*K.sz<=xs.length*K.sz:=CP _ hj
  rw [Nat.succ_mul] at hle
  have e:((f++g).drop (j*K.sz)).take K.sz=(f.drop (j*K.sz)).take K.sz:=by
   rw [List.drop_append_of_le_length (by omega),List.take_append_of_le_length (by simp; omega)]
  rw [e]
  exact this
 ·rw [Cs hj] at hx
  have:=hg _ x hx
  have e:((f++g).drop (j*K.sz)).take K.sz=(g.drop ((j-xs.length)*K.sz)).take K.sz:=by
   have hle:xs.length*K.sz<=j*K.sz:=CP _ hj
   rw [List.drop_append,List.drop_eq_nil_of_le (by omega),List.nil_append,hl,Nat.sub_mul]
  rw [e]
  exact this
theorem d6:∀ {K:Kd} {x:K.T} {cs:List Value},Gj H K x cs->∀ v∈cs,v.oneCell'=true:=fun h=>(Jz.of_rep h).oneCell
theorem Dr {K:Kd} {xs:List K.T} {f:List Value} (hf:EE H K xs f) (hl:f.length=xs.length*K.sz):∀ v∈f,v.oneCell'=true:=by
 intro v hv
 obtain ⟨k,hk,rfl⟩:=EX hv
 have hsz:=Kd.sz_pos K
 have hj:k / K.sz<xs.length:=(Nat.div_lt_iff_lt_mul hsz).2 (by omega)
 have h:=hf (k / K.sz) (xs[k / K.sz]) (by simp)
 refine d6 h f[k] ?_
 have hm:=Nat.mod_lt k hsz
 have hdm:=Nat.div_add_mod k K.sz
 rw [Nat.mul_comm] at hdm
 refine List.mem_iff_getElem?.2 ⟨k % K.sz,?_⟩
 rw [CA,if_pos hm,DC,hdm]
 simp [hk]
theorem zY {id:Nat} {e t ty:TypeId} {K:Kd} {xs ys:List K.T} {bv:Value} {flat2:List Value} {sl:Option Addr} {cap2:Nat}
  (hs:SR H φ st w) (hid:st[id]? = some (.rows e K xs)) (ht:P.underlying t=some (.slice e)) (he:elB P e K=true)
  (e2:bv=.slice sl ys.length cap2) (hl2:flat2.length=ys.length*K.sz) (hr2:EE H K ys flat2)
  (hc2:sl=none\/ys=[]\/∃ b off,sl=some ⟨b,off,none⟩/\∀ j u,flat2[j]? = some u->w.cell? ⟨b,off+j,none⟩=some u) (hn2:sl=none->ys=[])
  (hlim:xs.length+ys.length<=68719476736) (hnone:∀ (k:Nat) (cs:List AV),st[k]? = some (AX.var cs)->∀ (o:Nat),cs[o]? ≠ some (AV.row id)) :
  ∃ v' w',(Builtin.append_ #[t,t] ty #[φ id,bv]).run P w=.ok v' w' /\
   Ak H φ st w H (fun i=>if i=id then v' else φ i) (st.set id (.rows e K (xs++ys))) w'/\w.grownBy w' (ED (φ id)):=by
 obtain ⟨i,z,hi,hz,h1,h2,h3,_⟩:=YL he
 obtain ⟨flat,ho,hr⟩:=hs.box id _ hid
 have hsz:=Kd.sz_pos K
 have hb:(xs.length+ys.length)*i.bytes<=140737488355328:=by
  calc (xs.length+ys.length)*i.bytes<=68719476736*2048:=Nat.mul_le_mul hlim h2
   _=140737488355328:=by decide
 have hml:xs.length+ys.length<=maxLen:=by simp only [maxLen]; omega
 have fin:∀ v' w',w'.ownsRow 0 e K.sz v' (xs.length+ys.length) (flat++flat2)->w.grownBy w' (φ id).ownBlock->(∀ b,ED v'=some b->ED (φ id)=some b\/w.heap.size<=b) ->
   Ak H φ st w H (fun i=>if i=id then v' else φ i) (st.set id (.rows e K (xs++ys))) w'/\w.grownBy w' (ED (φ id)):=by
  intro v' w' ho' hg' hn'
  have hbl:ED (φ id)=(φ id).ownBlock:=by
   rcases ho.2 with ⟨e3,_⟩ | ⟨g,cap,cur,e3,_⟩<;>rw [e3]<;>rfl
  refine ⟨?_,by rw [hbl]; exact hg'⟩
  refine Ak.update hs hid rfl (by rw [hbl]; exact hg') ⟨flat++flat2,by rw [List.length_append]; exact ho',Iz hr ho.1 hr2⟩ hn' (.inr (by simp only [Ae,hid]; rfl)) (fun k cs hk o hq=>absurd hq (hnone k cs hk o)) (fun cs hcs=>by cases hcs)
 cases sl with
 | none =>
  obtain rfl:=hn2 rfl
  have hf2:flat2=[]:=DD.1 (by simpa using hl2)
  subst hf2
  subst e2
  refine ⟨φ id,w,o5 (P:=P) (w:=w) 0 t ty e i K.sz ht hi (φ id) xs.length cap2 flat ho,fin _ _ (by simpa using ho) ?_ (fun b hb=>.inl hb)⟩
  exact ⟨rfl,rfl,rfl,Nat.le_refl _,fun _ _ _=>rfl⟩
 | some a =>
  subst e2
  have hnews:∀ j u,flat2[j]? = some u->w.cell? (a.add j)=some u:=by
   rcases hc2 with h | h | ⟨b,off,h,g⟩
   ·cases h
   ·subst h
    have hf2:flat2=[]:=DD.1 (by simpa using hl2)
    subst hf2
    intro j u hu; simp at hu
   ·cases h
    intro j u hu
    rw [Addr.add_mid]
    exact g j u hu
  obtain ⟨v',w',hrun,ho',hg',_⟩:=run_append_own (P:=P) w 0 t ty e i z K.sz i.bytes ht hi hz h1 rfl h3 hsz (φ id) xs.length flat ho a ys.length cap2 flat2 hl2 hnews
   (Dr hr2 hl2) hml hb (Nat.zero_le _)
  refine ⟨v',w',hrun,fin v' w' ho' hg' ?_⟩
  have h1':=Dr hr2 hl2
  rcases ho.2 with ⟨e3,hn⟩ | ⟨g,cap,cur,e3,_,hg,hnc,hcm,hcs,htake⟩
  ·-- a nil row: what comes of it is new,or nil
   obtain ⟨v2,w2,hrun2,ho2,_,_⟩:=run_append_own (P:=P) w w.heap.size t ty e i z K.sz i.bytes ht hi hz h1 rfl h3 hsz (φ id) xs.length flat
    ⟨ho.1,.inl ⟨e3,hn⟩⟩ a ys.length cap2 flat2 hl2 hnews h1' hml hb (Nat.le_refl _)
   have e4:=hrun.symm.trans hrun2
   simp only [Result.ok.injEq] at e4
   obtain ⟨rfl,rfl⟩:=e4
   intro b hb'
   right
   rcases ho2.2 with ⟨e5,_⟩ | ⟨g',cap',cur',e5,hbase,_⟩
   ·rw [e5] at hb'; cases hb'
   ·rw [e5] at hb'
    simp only [ED,BT] at hb'
    omega
  ·by_cases hroom:xs.length+ys.length<=cap
   ·have hfit:xs.length*i.size+flat2.length<=cur.size:=by rw [hl2,hcs,h1,<- Nat.add_mul]; exact CP _ hroom
    have hrun2:=run_append_room (P:=P) w t ty e i ht hi g xs.length cap cur hg a ys.length cap2 flat2 (by rw [h1]; exact hl2) hnews h1' hroom hfit
    rw [<- e3] at hrun2
    have e4:=hrun.symm.trans hrun2
    simp only [Result.ok.injEq] at e4
    obtain ⟨rfl,_⟩:=e4
    intro b hb'
    left
    rw [e3]
    exact hb'
   ·have holds:∀ j u,flat[j]? = some u->w.cell? ((⟨g,0,none⟩:Addr).add j)=some u:=ho.cells (g:=g) (by rw [e3]; rfl)
    have hrun2:=run_append_grow (P:=P) w t ty e i z ht hi hz ⟨g,0,none⟩ xs.length cap flat (by rw [h1]; exact ho.1) holds a ys.length cap2 flat2 (by rw [h1]; exact hl2) hnews
     (by omega) (by omega) (growslice_fits (by omega) hb)
    rw [<- e3] at hrun2
    have e4:=hrun.symm.trans hrun2
    simp only [Result.ok.injEq] at e4
    obtain ⟨rfl,_⟩:=e4
    intro b hb'
    right
    simp only [ED,BT] at hb'
    omega
theorem rZ {id:Nat} {e t ty:TypeId} {K:Kd} {xs ys:List K.T} {bv:Value} {flat2:List Value} {sl:Option Addr} {cap2:Nat}
  (hs:SR H φ st w) (hid:st[id]? = some (.rows e K xs)) (ht:P.underlying t=some (.slice e)) (he:elB P e K=true)
  (e2:bv=.slice sl ys.length cap2) (hl2:flat2.length=ys.length*K.sz) (hr2:EE H K ys flat2)
  (hc2:sl=none\/ys=[]\/∃ b off,sl=some ⟨b,off,none⟩/\∀ j u,flat2[j]? = some u->w.cell? ⟨b,off+j,none⟩=some u) (hn2:sl=none->ys=[])
  (hlim:xs.length+ys.length<=68719476736) :
  ∃ v' w',(Builtin.append_ #[t,t] ty #[φ id,bv]).run P w=.ok v' w' /\
   Ak H φ st w H (fun i=>if i=id then v' else φ i) ((st.map (AX.kill [id])).set id (.rows e K (xs++ys))) w' /\
   C7 φ st (fun i=>if i=id then v' else φ i) ((st.map (AX.kill [id])).set id (.rows e K (xs++ys))) [id]/\w.grownBy w' (ED (φ id)):=by
 have hid':(st.map (AX.kill [id]))[id]? = some (.rows e K xs):=by rw [Cd,hid]; rfl
 obtain ⟨v',w',h1,h2,h3⟩:=zY (P:=P) (ty:=ty) (hs.kill [id]) hid' ht he e2 hl2 hr2 hc2 hn2 hlim fun k cs hk o hq=>by
  have:=TS hk hq
  simp [CB] at this
 have go:∀ j,j≠id->((st.map (AX.kill [id])).set id (.rows e K (xs++ys)))[j]? = (st.map (AX.kill [id]))[j]? := fun j hj=>by rw [BK,if_neg (Ne.symm hj)]
 have hvn:Ae st id=false:=by simp only [Ae,hid]; rfl
 refine ⟨v',w',h1,(Ak.kill hs [id]).trans h2,⟨fun j hn _=>?_,fun j hv=>?_⟩,h3⟩
 ·have hj:j≠id:=fun e=>by subst e; simp [CB] at hn
  refine ⟨by simp [hj],?_,?_⟩
  ·rw [<- IP (Ai [id]) st j]; simp only [AQ,go j hj]
  ·rw [<- GY (Ai [id]) st j]; simp only [An,go j hj]
 ·have hj:j≠id:=fun e=>by subst e; rw [hvn] at hv; cases hv
  have t1:Ae ((st.map (AX.kill [id])).set id (.rows e K (xs++ys))) j=Ae (st.map (AX.kill [id])) j:=by simp only [Ae,go j hj]
  have t2:An ((st.map (AX.kill [id])).set id (.rows e K (xs++ys))) j=An (st.map (AX.kill [id])) j:=by simp only [An,go j hj]
  exact ⟨by simp [hj],by rw [t1,HM (Ai [id])]; exact hv,by rw [t2,GY (Ai [id])]⟩
def AAp (t:TypeId) (H:HP) (φ:CQ) (st:List AX) (a:AV) (u:Value):Prop:=(∀ p,VW H p t a u)/\∀ i,a=.row i->(AQ st i).isSome=true/\u=φ i
theorem d5.toT {t:TypeId} {H:HP} {φ:CQ} {st:List AX} {a:AV} {u:Value} (h:d5 H φ st a u):AAp t H φ st a u:=⟨fun p=>h.1 p t,h.2⟩
theorem rc (hs:SR H φ st w) {t:TypeId} {v:Value} {cs:List AV} (hv:Az (AAp t H φ st) cs v.cells.toList) :
  (newVar t v).run P w=.ok ⟨w.heap.size,0,none⟩ (w.alloc (.cells v.cells t)) /\
   Ak H φ st w H (fun i=>if i=st.length then .pointer (some ⟨w.heap.size,0,none⟩) else φ i) (st++[.var cs]) (w.alloc (.cells v.cells t)):=by
 refine ⟨by simp [newVar,newRow],Ak.push hs (World.grownBy_alloc w _ none) ⟨w.heap.size,v.cells,t,rfl,heap_alloc_new w _,hv.imp fun _ _ h=>h.1 _⟩ (fun _ b hb=>?_) (fun cs' e o i ho=>?_)⟩
 ·simp only [ED,BT] at hb
  omega
 ·cases e
  obtain ⟨u,hu,ht⟩:=hv.get o _ ho
  obtain ⟨h1,h2⟩:=ht.2 i rfl
  refine ⟨h1,_,rfl,?_⟩
  simp only [World.cell?,heap_alloc_new]
  rw [<- h2]
  simpa using hu
def ZC (T:TypeId) (H:HP) (a:AV) (v:Value):Prop:=(∃ t K,a=.new t K []/\v=.slice none 0 0)\/VF H a v\/(a=.self T/\v=.pointer none)
theorem uM {k:Nat} {a:AV} {r:List AV} {v:Value} (h:VF H a v):Bl k (a::r)=a::Bl k r/\BM (a::r)=BM r/\AT (a::r)=AT r:=by
 cases a<;>first | exact ⟨rfl,rfl,rfl⟩ | exact h.elim
theorem YM {T:TypeId}:∀ {cs:List AV} {vs:List Value} {st:List AX} {φ:CQ},Az (ZC T H) cs vs->SR H φ st w ->
  ∃ φ',Ak H φ st w H φ' (st++BM cs) w/\CD φ st φ' (st++BM cs) none/\Az (AAp T H φ' (st++BM cs)) (Bl st.length cs) vs/\(st++BM cs).length=st.length+AT cs
 | [],vs,st,φ,h,hs=>by
  cases h
  simp only [BM,List.append_nil,Bl]
  exact ⟨φ,Ak.refl hs,CD.refl _ _ _,rfl,rfl⟩
 | a::cs,vs,st,φ,⟨v,r,e,h,hr⟩,hs=>by
  subst e
  rcases h with ⟨t,K,rfl,rfl⟩ | h | ⟨rfl,rfl⟩
  ·have hst:Ak H φ st w H (fun i=>if i=st.length then .slice none 0 0 else φ i) (st++[.rows t K []]) w :=
    Ak.push hs ⟨rfl,rfl,rfl,Nat.le_refl _,fun _ _ _=>rfl⟩ ⟨[],⟨by simp,.inl ⟨rfl,rfl⟩⟩,fun j x hx=>by simp at hx⟩ (fun _ b hb=>by simp [ED] at hb) (fun cs e=>by cases e)
   obtain ⟨φ',g1,g2,g3,g4⟩:=YM hr hst.sr
   have e1:st++BM (.new t K []::cs)=(st++[.rows t K []])++BM cs:=by simp [BM]
   have e2:Bl st.length (.new t K []::cs)=.row st.length::Bl (st++[AX.rows t K []]).length cs:=by simp [Bl]
   rw [e1,e2]
   refine ⟨φ',hst.trans g1,(FO φ st _ _).trans g2,⟨_,_,rfl,⟨fun _=>trivial,fun i e=>?_⟩,g3⟩,?_⟩
   ·cases e
    obtain ⟨k1,k2,_⟩:=g2 st.length (by simp) (.inl (by simp [AQ]))
    refine ⟨by rw [k2]; simp [AQ],by rw [k1]; simp⟩
   ·rw [g4]; simp [AT,AV.isNew]; omega
  ·obtain ⟨o1,o2,o3⟩:=uM (k:=st.length) (r:=cs) h
   rw [o1,o2,o3]
   obtain ⟨φ',g1,g2,g3,g4⟩:=YM hr hs
   exact ⟨φ',g1,g2,⟨_,_,rfl,(d5.of_VF h).toT,g3⟩,g4⟩
  ·obtain ⟨φ',g1,g2,g3,g4⟩:=YM hr hs
   exact ⟨φ',g1,g2,⟨_,_,rfl,⟨fun _=>⟨rfl,.inl rfl⟩,fun i e=>by cases e⟩,g3⟩,g4⟩
theorem d7 (hs:SR H φ st w) {w':World} {e:TypeId} {K:Kd} {xs:List K.T} {v:Value} {flat:List Value} (hg:w.grownBy w' none)
  (ho:w'.ownsRow w.heap.size e K.sz v xs.length flat) (hr:EE H K xs flat) :
  Ak H φ st w H (fun i=>if i=st.length then v else φ i) (st++[.rows e K xs]) w':=by
 refine Ak.push hs hg ⟨flat,⟨ho.1,?_⟩,hr⟩ (fun _ b hb=>?_) (fun cs e=>by cases e)
 ·rcases ho.2 with h | ⟨g,cap,cur,e1,_,r⟩
  ·exact .inl h
  ·exact .inr ⟨g,cap,cur,e1,Nat.zero_le _,r⟩
 ·rcases ho.2 with ⟨e1,_⟩ | ⟨g,cap,cur,e1,h1,_⟩
  ·rw [e1] at hb; cases hb
  ·rw [e1] at hb
   simp only [ED,BT] at hb
   omega
end Go.Proofs.YtfcgblnlopemkaaGreatDoor.Core

namespace Go.Proofs.YtfcgblnlopemkaaGreatDoor.Core
open Go
variable {H:HP} {φ:CQ} {w:World} {P:Program}
def o6:Value->AV->Bool
 | .int k n,.int k' n'=>decide (k=k')&&decide (n=n')
 | .bool b,.bool b'=>b==b'
 | .string s,.str s'=>decide (s=s')
 | .slice none 0 0,.nil=>true
 | .slice none 0 0,.lst _ xs=>xs.isEmpty
 | _,_=>false
theorem gx {v:Value} {a:AV} (h:o6 v a=true):VF H a v:=by
 unfold o6 at h
 split at h
 ·simp only [AE,decide_eq_true_eq] at h
  obtain ⟨rfl,rfl⟩:=h
  rfl
 ·simp only [beq_iff_eq] at h
  subst h
  rfl
 ·simp only [decide_eq_true_eq] at h
  subst h
  rfl
 ·rfl
 ·rw [List.isEmpty_iff] at h
  subst h
  exact YI
 ·cases h
def Dl:Operand->Cr->Bool
 | .tmp t,.t n=>t==n
 | .const _,.c .undef=>true
 | .const v,.c a=>o6 v a
 | .func f,.c (.fn g caps)=>f==g&&caps.isEmpty
 | _,_=>false
theorem Bg {s:St} {act:Act} {x:Operand} {y:Cr} (hf:HR H φ s.st s.fr act.tmps) (h:Dl x y=true):VA H φ s.st (s.opd y) (act.eval x):=by
 unfold Dl at h
 split at h
 ·simp only [beq_iff_eq] at h
  subst h
  exact hf _
 ·trivial
 ·exact VA.of_VF (gx h)
 ·simp only [AE,beq_iff_eq,List.isEmpty_iff] at h
  obtain ⟨rfl,rfl⟩:=h
  exact ⟨rfl,rfl⟩
 ·cases h
def xf (W:List Nat) (φ:CQ) (st:List AX) (w w':World):Prop :=
 ∀ (i:Nat) (bx:AX),st[i]? = some bx->bx.live=true->i∉W->∀ b,ED (φ i)=some b->w'.heap[b]? = w.heap[b]?
theorem xf.refl (W:List Nat) (φ:CQ) (st:List AX) (w:World):xf W φ st w w:=fun _ _ _ _ _ _ _=>rfl
theorem xf.grown {W:List Nat} {st:List AX} {w w':World} (hs:SR H φ st w) (hg:w.grownBy w' none):xf W φ st w w' :=
 fun i bx hi hl _ b hb=>hg.block b ((hs.box i bx hi).blk_lt hl hb) (by simp)
def EN (o:Oper) (act:Act) (w w2:World):Prop:=match o.op with
 | .load _ y=>∀ b,ED (act.eval y)=some b->w2.heap[b]? = w.heap[b]?
 | _=>True
theorem EN.refl (o:Oper) (act:Act) (w:World):EN o act w w:=by
 unfold EN
 split
 ·exact fun _ _=>rfl
 ·trivial
structure Extra (P:Program) (o:Oper) (ao:Fw) (s:St) (act:Act) (φ:CQ) (w w':World) (v:Value):Prop where
 mem:xf (ao.touch s) φ s.st w w'
 val:ao.isVal=true->w'=w/\∀ w2,EN o act w w2->(execOp act.eval o).run P w2=.ok (.value v) w2
def Jx (P:Program) (n:Nat) (o:Oper) (ao:Fw) (cal:Gi):Prop :=
 ∀ (ρ:Type) (kn:St->Option ρ) (r:ρ) (s:St) (act:Act) (w:World) (H:HP) (φ:CQ) (next:Act->World->Prop) (Q:Exit->Act->World->Prop),
  SR H φ s.st w->HR H φ s.st s.fr act.tmps->act.tmps.size=n->Ef cal kn s ao=some r ->
  (∀ s' v w' H' φ',kn s'=some r->Ak H φ s.st w H' φ' s'.st w'->HR H' φ' s'.st s'.fr (act.put o.dst v).tmps->Extra P o ao s act φ w w' v->next (act.put o.dst v) w') ->
  o.wp P act w next Q
theorem l8 {o:Oper} {act:Act} {w:World} {next:Act->World->Prop} {Q:Exit->Act->World->Prop} {v:Value} {w':World}
  (hrun:(execOp act.eval o).run P w=.ok (.value v) w') (h:next (act.put o.dst v) w'):o.wp P act w next Q:=by
 unfold Oper.wp
 rw [hrun]
 exact h
theorem YN {act:Act} {dst:Option Tmp} {d:Nat} (hd:dst=some d) (v:Value):(act.put dst v).tmps=act.tmps.setIfInBounds d v:=by
 subst hd; rfl
theorem Bk {o:Oper} {ao:Fw} {n d:Nat} {s:St} {act:Act} {a:AV} {v:Value} {next:Act->World->Prop} {Q:Exit->Act->World->Prop} {ρ:Type} {kn:St->Option ρ} {r:ρ}
  (hs:SR H φ s.st w) (hf:HR H φ s.st s.fr act.tmps) (hn:act.tmps.size=n) (hd:o.dst=some d) (hdn:d<n) (hk:kn (s.put d a)=some r)
  (hrun:∀ w2,EN o act w w2->(execOp act.eval o).run P w2=.ok (.value v) w2) (hv:VA H φ s.st a v)
  (hnext:∀ s' v w' H' φ',kn s'=some r->Ak H φ s.st w H' φ' s'.st w'->HR H' φ' s'.st s'.fr (act.put o.dst v).tmps->Extra P o ao s act φ w w' v->next (act.put o.dst v) w'):o.wp P act w next Q :=
 l8 (hrun w (EN.refl o act w)) (hnext (s.put d a) v w H φ hk (Ak.refl hs) (by rw [YN hd]; exact hf.put (by omega) hv) ⟨xf.refl _ _ _ _,fun _=>⟨rfl,hrun⟩⟩)
def LX (o:Oper) (n d:Nat):Bool:=o.dst==some d&&decide (d<n)
theorem By {o:Oper} {n d:Nat} (h:LX o n d=true):o.dst=some d/\d<n:=by simpa [LX] using h
def mvB (n:Nat) (o:Oper) (d:Nat) (x:Cr):Bool :=
 LX o n d&&(match o.op with | .move y=>Dl y x | .assign y=>Dl y x | _=>false)
theorem AHM {n:Nat} {o:Oper} {d:Nat} {x:Cr} {cal:Gi} (h:mvB n o d x=true):Jx P n o (.mv d x) cal:=by
 intro ρ kn r s act w H φ next Q hs hf hn hk hnext
 simp only [mvB,AE] at h
 obtain ⟨h1,h2⟩:=h
 obtain ⟨hd,hdn⟩:=By h1
 simp only [Ef] at hk
 split at h2
 ·rename_i y ho
  exact Bk hs hf hn hd hdn hk (v:=act.eval y) (fun _ _=>by simp [execOp,ho]) (Bg hf h2) hnext
 ·rename_i y ho
  exact Bk hs hf hn hd hdn hk (v:=act.eval y) (fun _ _=>by simp [execOp,ho]) (Bg hf h2) hnext
 ·cases h2
def rd (n:Nat) (o:Oper) (d:Nat) (c a b:Cr):Bool :=
 LX o n d&&(match o.op with | .pick c' a' b'=>Dl c' c&&Dl a' a&&Dl b' b | _=>false)
theorem VA.bool {a:AV} {st:List AX} {v:Value} {b:Bool} (h:VA H φ st a v) (e:a=.bool b):v=.bool b:=by subst e; exact h
theorem VA.int {a:AV} {st:List AX} {v:Value} {k:IntKind} {n:Int} (h:VA H φ st a v) (e:a=.int k n):v=.int k n:=by subst e; exact h
theorem VA.str {a:AV} {st:List AX} {v:Value} {b:ByteArray} (h:VA H φ st a v) (e:a=.str b):v=.string b:=by subst e; exact h
theorem AFJ {n:Nat} {o:Oper} {d:Nat} {c a b:Cr} {cal:Gi} (h:rd n o d c a b=true):Jx P n o (.pick d c a b) cal:=by
 intro ρ kn r s act w H φ next Q hs hf hn hk hnext
 simp only [rd,AE] at h
 obtain ⟨h1,h2⟩:=h
 obtain ⟨hd,hdn⟩:=By h1
 split at h2
 ·rename_i c' a' b' ho
  simp only [AE] at h2
  obtain ⟨⟨hc,ha⟩,hb⟩:=h2
  simp only [Ef] at hk
  cases hcv:s.opd c with
  | bool t =>
   rw [hcv] at hk
   simp only at hk
   have hc':=(Bg hf hc).bool hcv
   cases t with
   | true=>exact Bk hs hf hn hd hdn (by simpa using hk) (v:=act.eval a') (fun _ _=>by simp [execOp,ho,hc',asBool]) (Bg hf ha) hnext
   | false=>exact Bk hs hf hn hd hdn (by simpa using hk) (v:=act.eval b') (fun _ _=>by simp [execOp,ho,hc',asBool]) (Bg hf hb) hnext
  | _=>rw [hcv] at hk; cases hk
 ·cases h2
end Go.Proofs.YtfcgblnlopemkaaGreatDoor.Core

namespace Go.Proofs.YtfcgblnlopemkaaGreatDoor.Core
open Go
variable {P:Program}
theorem Lq {H H':HP} {φ φ':CQ} {w w':World} {o:Oper} {ao:Fw} {n d:Nat} {s s1:St} {act:Act} {a:AV} {v:Value} {next:Act->World->Prop} {Q:Exit->Act->World->Prop} {ρ:Type} {kn:St->Option ρ} {r:ρ}
  (hst:Ak H φ s.st w H' φ' s1.st w') (hf:HR H' φ' s1.st s1.fr act.tmps) (hn:act.tmps.size=n) (hd:o.dst=some d) (hdn:d<n) (hk:kn (s1.put d a)=some r)
  (hrun:(execOp act.eval o).run P w=.ok (.value v) w') (hv:VA H' φ' s1.st a v)
  (hnext:∀ s' v w' H' φ',kn s'=some r->Ak H φ s.st w H' φ' s'.st w'->HR H' φ' s'.st s'.fr (act.put o.dst v).tmps->Extra P o ao s act φ w w' v->next (act.put o.dst v) w')
  (hmem:xf (ao.touch s) φ s.st w w') (hnv:ao.isVal=false):o.wp P act w next Q :=
 l8 hrun (hnext (s1.put d a) v w' H' φ' hk hst (by rw [YN hd]; exact hf.put (by omega) hv) ⟨hmem,fun h=>by rw [hnv] at h; cases h⟩)
theorem o7 (st:List AX) (cs:List AV):An (st++[.var cs]) st.length=true:=by simp [An]
def zZ (n:Nat) (o:Oper) (d:Nat):Bool :=
 LX o n d&&(match o.op with | .move y=>Dl y (.c .nil) | .assign y=>Dl y (.c .nil) | _=>false)
theorem AC_ {n:Nat} {o:Oper} {d:Nat} {t:TypeId} {K:Kd} {cal:Gi} (h:zZ n o d=true):Jx P n o (.nilrow d t K) cal:=by
 intro ρ kn r s act w H φ next Q hs hf hn hk hnext
 simp only [zZ,AE] at h
 obtain ⟨h1,h2⟩:=h
 obtain ⟨hd,hdn⟩:=By h1
 have key:∀ y:Operand,(execOp act.eval o)=pure (.value (act.eval y))->Dl y (.c .nil)=true->o.wp P act w next Q:=by
  intro y hy hb
  have hv:act.eval y=.slice none 0 0:=Bg (s:=s) hf hb
  have hst:Ak H φ s.st w H (fun i=>if i=s.st.length then .slice none 0 0 else φ i) (s.st++[.rows t K []]) w :=
   Ak.push hs ⟨rfl,rfl,rfl,Nat.le_refl _,fun _ _ _=>rfl⟩ ⟨[],⟨by simp,.inl ⟨rfl,rfl⟩⟩,fun j x hx=>by simp at hx⟩ (fun _ b hb=>by simp [ED] at hb) (fun cs e=>by cases e)
  refine Lq (s:=s) (s1:=⟨s.fr,s.st++[.rows t K []]⟩) (a:=.row s.st.length) hst (hf.mono (HP.le_refl H) (FO φ s.st _ _)) hn hd hdn hk (by rw [hy,hv]; rfl) ?_ hnext (xf.refl _ _ _ _) rfl
  exact ⟨by simp,by simp [AQ]⟩
 split at h2
 ·rename_i y ho; exact key y (by simp [execOp,ho]) h2
 ·rename_i y ho; exact key y (by simp [execOp,ho]) h2
 ·cases h2
def gy:List Value->List AV->Bool
 | [],[]=>true
 | v::vs,a::aw=>o6 v a&&gy vs aw
 | _,_=>false
theorem uN {H:HP}:∀ {vs:List Value} {aw:List AV},gy vs aw=true->Jz H aw vs
 | [],[],_=>rfl
 | v::vs,a::aw,h=>by
  simp only [gy,AE] at h
  exact ⟨v,vs,rfl,gx h.1,uN h.2⟩
 | [],_::_,h=>by simp [gy] at h
 | _::_,[],h=>by simp [gy] at h
def ADx (P:Program) (t:TypeId) (cs:List AV):Bool :=
 match (P.info? t).bind (·.zero) with
 | some z=>gy z.cells.toList cs
 | none=>false
def zcB (T:TypeId):Value->AV->Bool
 | .pointer none,.self t=>t==T
 | .slice none 0 0,.new _ _ xs=>xs.isEmpty
 | v,a=>o6 v a
theorem AGZ {T:TypeId} {H:HP} {v:Value} {a:AV} (h:zcB T v a=true):ZC T H a v:=by
 unfold zcB at h
 split at h
 ·rename_i t
  exact .inr (.inr ⟨by rw [eq_of_beq h],rfl⟩)
 ·rename_i t K xs
  left
  refine ⟨t,K,?_,rfl⟩
  have:xs=[]:=by simpa using h
  rw [this]
 ·exact .inr (.inl (gx h))
def ADA (T:TypeId):List Value->List AV->Bool
 | [],[]=>true
 | v::vs,a::aw=>zcB T v a&&ADA T vs aw
 | _,_=>false
theorem ACO {T:TypeId} {H:HP}:∀ {vs:List Value} {aw:List AV},ADA T vs aw=true->Az (ZC T H) aw vs
 | [],[],_=>rfl
 | v::vs,a::aw,h=>by
  simp only [ADA,AE] at h
  exact ⟨v,vs,rfl,AGZ h.1,ACO h.2⟩
 | [],_::_,h=>by simp [ADA] at h
 | _::_,[],h=>by simp [ADA] at h
def ACP (P:Program) (t:TypeId) (cs:List AV):Bool :=
 match (P.info? t).bind (·.zero) with
 | some z=>ADA t z.cells.toList cs
 | none=>false
theorem l9 {t:TypeId} {cs:List AV} (h:ACP P t cs=true):∃ i z,P.info? t=some i/\i.zero=some z/\∀ H,Az (ZC t H) cs z.cells.toList:=by
 unfold ACP at h
 cases hi:P.info? t with
 | none=>rw [hi] at h; cases h
 | some i =>
  rw [hi] at h
  simp only [AA] at h
  cases hz:i.zero with
  | none=>rw [hz] at h; cases h
  | some z=>rw [hz] at h; exact ⟨i,z,rfl,hz,fun H=>ACO h⟩
theorem ADy {t:TypeId} {cs:List AV} (h:ADx P t cs=true):∃ i z,P.info? t=some i/\i.zero=some z/\∀ H,Jz H cs z.cells.toList:=by
 unfold ADx at h
 cases hi:P.info? t with
 | none=>rw [hi] at h; cases h
 | some i =>
  rw [hi] at h
  simp only [AA] at h
  cases hz:i.zero with
  | none=>rw [hz] at h; cases h
  | some z=>rw [hz] at h; exact ⟨i,z,rfl,hz,fun H=>uN h⟩
def uO (P:Program) (n:Nat) (o:Oper) (d:Nat) (cs:List AV):Bool :=
 LX o n d&&(match o.op with | .alloc t=>ACP P t cs | _=>false)
theorem ADz {n:Nat} {o:Oper} {d:Nat} {cs:List AV} {cal:Gi} (h:uO P n o d cs=true):Jx P n o (.alloc d cs) cal:=by
 intro ρ kn r s act w H φ next Q hs hf hn hk hnext
 simp only [uO,AE] at h
 obtain ⟨h1,h2⟩:=h
 obtain ⟨hd,hdn⟩:=By h1
 split at h2
 ·rename_i t ho
  obtain ⟨i,z,hi,hz,hv⟩:=l9 h2
  obtain ⟨φ1,g1,k1,told,len⟩:=YM (hv H) hs
  obtain ⟨hrun,hst⟩:=rc (P:=P) (t:=t) g1.sr told
  rw [len] at hst
  simp only [Ef] at hk
  refine Lq (s:=s) (s1:=⟨s.fr,s.st++BM cs++[.var (Bl s.st.length cs)]⟩) (a:=.ptr (s.st.length+AT cs) 0) (v:=.pointer (some ⟨w.heap.size,0,none⟩)) (g1.trans hst)
   ((hf.mono (HP.le_refl H) k1).mono (HP.le_refl H) (by have:=FO φ1 (s.st++BM cs) (.pointer (some ⟨w.heap.size,0,none⟩)) (.var (Bl s.st.length cs)); rwa [len] at this)) hn hd hdn hk ?_ ?_ hnext (xf.grown hs (World.grownBy_alloc w _ none)) rfl
  ·simp [execOp,ho,Instr.alloc,zeroValue,typeInfo,hi,hz,hrun]
  ·refine ⟨?_,w.heap.size,by simp,rfl⟩
   rw [<- len]; exact o7 _ _
 ·cases h2
def AGa (n:Nat) (o:Oper) (d:Nat) (x:Cr):Bool :=
 LX o n d&&(match o.op with | .box _ y=>Dl y x | _=>false)
theorem ABn {H:HP} {φ:CQ} {w:World} {s s':St} {own:Bool} {a:AV} {aw:List AV} {v:Value} (hs:SR H φ s.st w) (hv:VA H φ s.st a v) (h:s.stash own a.cells=some (aw,s')) :
  ∃ H',Ak H φ s.st w H' φ s'.st w/\CD φ s.st φ s'.st none/\Az (d5 H' φ s'.st) aw v.cells.toList/\s'.fr=s.fr:=by
 unfold St.stash at h
 split at h
 ·split at h
  ·rename_i hg
   cases h
   refine ⟨H,Ak.refl hs,CD.refl _ _ _,?_,rfl⟩
   have told:∀ b∈a.cells,∀ u,VC H φ s.st b u->d5 H φ s.st b u:=fun b hb u hu=>by
    have:=Bp.1 hg b hb
    cases b with
    | row i=>exact ⟨fun _ _=>trivial,fun j e=>by cases e; exact ⟨hu.2,hu.1⟩⟩
    | _=>exact d5.of_VF (hu.solid this)
   rcases hv.cases with ⟨cs,arr,rfl,rfl,hc⟩ | ⟨vs,arr,rfl,_,_⟩ | hc
   ·exact hc.impM told
   ·simp [AV.cells,AV.good,AV.solid] at hg
   ·have hcell:a.cells=[a]:=by cases a<;>first | rfl | exact hc.elim
    rw [hcell] at hg told ⊢
    have hga:a.good=true:=by simpa using hg
    rw [(uL hs hga hc).2]
    exact ⟨v,[],rfl,told a (by simp) v hc,rfl⟩
  ·cases h
 ·obtain ⟨H1,g1,k1,f1,e1,_⟩:=NO hs hv h
  exact ⟨H1,g1,k1,(JK.1 f1).imp fun _ _ h=>d5.of_VF h,e1⟩
theorem AGb {n:Nat} {o:Oper} {d:Nat} {x:Cr} {own:Bool} {cal:Gi} (h:AGa n o d x=true):Jx P n o (.box d x own) cal:=by
 intro ρ kn r s act w H φ next Q hs hf hn hk hnext
 simp only [AGa,AE] at h
 obtain ⟨h1,h2⟩:=h
 obtain ⟨hd,hdn⟩:=By h1
 split at h2
 ·rename_i t y ho
  simp only [Ef] at hk
  cases hq:s.stash own (s.opd x).cells with
  | none=>rw [hq] at hk; cases hk
  | some z =>
   obtain ⟨aw,s1⟩:=z
   rw [hq] at hk
   simp only [AA] at hk
   obtain ⟨H1,g1,k1,f1,e1⟩:=ABn hs (Bg hf h2) hq
   obtain ⟨hrun,hst⟩:=rc (P:=P) (t:=t) g1.sr (f1.imp fun _ _ h=>h.toT)
   refine Lq (s:=s) (s1:=⟨s1.fr,s1.st++[.var aw]⟩) (a:=.ptr s1.st.length 0) (v:=.pointer (some ⟨w.heap.size,0,none⟩)) (g1.trans hst)
    ?_ hn hd hdn hk ?_ ?_ hnext (xf.grown hs (World.grownBy_alloc w _ none)) rfl
   ·rw [e1]; exact (hf.mono g1.le k1).mono (HP.le_refl _) (FO φ s1.st _ _)
   ·simp [execOp,ho,Instr.box,hrun]
   ·exact ⟨o7 _ _,w.heap.size,by simp,rfl⟩
 ·cases h2
def uP (P:Program) (n:Nat) (o:Oper) (d:Nat) (x:Cr) (m:Option Nat):Bool :=
 LX o n d&&(match o.op with | .load t y=>Dl y x&&(match m with | some k=>szB P t k&&dz P t true | none=>dz P t false) | _=>false)
theorem VA.behind {H:HP} {φ:CQ} {s:St} {a:AV} {v:Value} {y:List AV×Nat} (h:VA H φ s.st a v) (hb:s.behind a=some y):VC H φ s.st a v:=by
 rcases h.cases with ⟨cs,arr,rfl,_⟩ | ⟨vs,arr,rfl,_⟩ | h
 ·cases hb
 ·cases hb
 ·exact h
theorem AFK {n:Nat} {o:Oper} {d:Nat} {x:Cr} {m:Option Nat} {cal:Gi} (h:uP P n o d x m=true):Jx P n o (.load d x m) cal:=by
 intro ρ kn r s act w H φ next Q hs hf hn hk hnext
 simp only [uP,AE] at h
 obtain ⟨h1,h2⟩:=h
 obtain ⟨hd,hdn⟩:=By h1
 split at h2
 ·rename_i t y ho
  simp only [AE] at h2
  obtain ⟨h2,h3⟩:=h2
  simp only [Ef] at hk
  cases hq:s.behind (s.opd x) with
  | none=>rw [hq] at hk; cases hk
  | some z =>
   rw [hq] at hk
   simp only [AA] at hk
   split at hk
   ·rename_i hle
    obtain ⟨u,hrun,hu⟩:=zV (P:=P) (t:=t) hs ((Bg hf h2).behind hq) (cs:=z.1) (off:=z.2) hq (n:=m) hle (by cases m<;>exact h3)
    refine Bk hs hf hn hd hdn hk (fun w2 hr=>?_) hu hnext
    simp only [EN,ho] at hr
    simp [execOp,ho,hrun w2 hr]
   ·cases hk
 ·cases h2
def ABo (P:Program) (o:Oper) (x y:Cr) (m:Nat):Bool :=
 match o.op with | .store t x' y'=>Dl x' x&&Dl y' y&&szB P t m&&o.dst.isNone | _=>false
theorem VA.storeAt {H:HP} {φ:CQ} {s s' s1:St} {own:Bool} {a:AV} {v:Value} {aw:List AV} (h:VA H φ s.st a v) (hb:s'.storeAt own a aw=some s1):VC H φ s.st a v:=by
 rcases h.cases with ⟨cs,arr,rfl,_⟩ | ⟨vs,arr,rfl,_⟩ | h
 ·cases hb
 ·cases hb
 ·exact h
theorem l_:∀ {aw:List AV} {s:St} {x:List AV×St},s.keepAll aw=some x->∀ a∈aw,a.good=true
 | [],_,_,_,a,ha=>by cases ha
 | b::aw,s,x,h,a,ha=>by
  simp only [St.keepAll] at h
  cases hk:s.keep b with
  | none=>rw [hk] at h; cases h
  | some y =>
   rw [hk] at h
   simp only [AA] at h
   cases hq:y.2.keepAll aw with
   | none=>rw [hq] at h; cases h
   | some z =>
    rcases BF.1 ha with rfl | ha
    ·exact yi hk
    ·exact l_ hq a ha
theorem za {s s':St} {own:Bool} {p:AV} {vs:List AV} (h:s.storeAt own p vs=some s'):∀ v∈vs,v.good=true:=by
 unfold St.storeAt at h
 split at h
 ·split at h
  ·split at h
   ·rename_i cs _ _
    cases hq:s.intoAll own ((cs.drop _).take vs.length) vs with
    | none=>rw [hq] at h; cases h
    | some y=>exact (aO hq).2.2
   ·cases h
  ·cases h
 ·cases hq:s.keepAll vs with
  | none=>rw [hq] at h; cases h
  | some z=>exact l_ hq
 ·cases h
theorem VA.goodCells {H:HP} {φ:CQ} {st:List AX} {w:World} {a:AV} {v:Value} (hs:SR H φ st w) (h:VA H φ st a v) (hg:∀ b∈a.cells,b.good=true):Az (VC H φ st) a.cells v.cells.toList:=by
 rcases h.cases with ⟨cs,arr,rfl,rfl,hc⟩ | ⟨vs,arr,rfl,_,_⟩ | hc
 ·exact hc
 ·have:=hg (.tup vs) (by simp [AV.cells]); simp [AV.good,AV.solid] at this
 ·have hcell:a.cells=[a]:=by cases a<;>first | rfl | exact hc.elim
  rw [hcell] at hg ⊢
  rw [(uL hs (hg a (by simp)) hc).2]
  exact ⟨v,[],rfl,hc,rfl⟩
theorem AD0 {n:Nat} {o:Oper} {x y:Cr} {m:Nat} {own:Bool} {cal:Gi} (h:ABo P o x y m=true):Jx P n o (.store x y m own) cal:=by
 intro ρ kn r s act w H φ next Q hs hf hn hk hnext
 unfold ABo at h
 split at h
 ·rename_i t x' y' ho
  simp only [AE,Option.isNone_iff_eq_none] at h
  obtain ⟨⟨⟨hx,hy⟩,hsz⟩,hd⟩:=h
  simp only [Ef] at hk
  split at hk
  ·rename_i hm
   cases hz:s.storeAt own (s.opd x) (s.opd y).cells with
   | none=>rw [hz] at hk; cases hk
   | some s2 =>
    rw [hz] at hk
    simp only [AA] at hk
    have hp:=(Bg hf hx).storeAt hz
    obtain ⟨H1,φ',w',hrun,hst,hf2,hmem⟩:=zX (P:=P) (t:=t) hs hf hp ((Bg hf hy).goodCells hs (za hz)) hz (by rw [hm]; exact hsz)
    unfold Oper.wp
    simp only [execOp,ho,Sem.run_bind,hrun,Result.andThen_ok,Sem.run_pure,Oper.upon_skip]
    refine hnext s2 undef w' H1 φ' hk hst ?_ ⟨?_,fun h=>by cases h⟩
    ·rw [hd]
     exact hf2
    ·intro i bx hi hl hn b hb
     refine hmem i bx hi hl (fun id hid=>?_) b hb
     intro e
     subst e
     apply hn
     simp only [Fw.touch]
     rcases hid with ⟨off,e⟩ | ⟨j,off,e⟩<;>rw [e]<;>simp
  ·cases hk
 ·cases h
def ACQ (n:Nat) (o:Oper) (d:Nat) (x:Cr):Bool :=
 LX o n d&&(match o.op with | .nilCheck y=>Dl y x | _=>false)
theorem AFL {n:Nat} {o:Oper} {d:Nat} {x:Cr} {cal:Gi} (h:ACQ n o d x=true):Jx P n o (.nilc d x) cal:=by
 intro ρ kn r s act w H φ next Q hs hf hn hk hnext
 simp only [ACQ,AE] at h
 obtain ⟨h1,h2⟩:=h
 obtain ⟨hd,hdn⟩:=By h1
 split at h2
 ·rename_i y ho
  have hv:=Bg hf h2
  simp only [Ef] at hk
  have key:∀ a,s.opd x=a->kn (s.put d a)=some r->(∃ p,act.eval y=.pointer (some p))->o.wp P act w next Q:=by
   rintro a e hk' ⟨p,hp⟩
   rw [e] at hv
   exact Bk hs hf hn hd hdn hk' (v:=act.eval y) (fun _ _=>by simp [execOp,ho,hp]) hv hnext
  cases hx:s.opd x with
  | ptr id off =>
   rw [hx] at hk hv
   obtain ⟨_,b,_,e⟩:=hv
   exact key _ hx hk ⟨_,e⟩
  | eptr id i off =>
   rw [hx] at hk hv
   obtain ⟨b,_,_,_,_,_,_,e⟩:=hv
   exact key _ hx hk ⟨_,e⟩
  | fptr cs off =>
   rw [hx] at hk hv
   obtain ⟨b,_,_,_,_,e,_⟩:=hv
   exact key _ hx hk ⟨_,e⟩
  | _=>rw [hx] at hk; cases hk
 ·cases h2
def ACR (P:Program) (t:TypeId) (f off:Nat):Option TypeId :=
 match P.underlying t with
 | some (.struct fs)=>match fs[f]? with
  | some fd=>if fd.offset=off then some fd.type else none
  | none=>none
 | _=>none
theorem AAq {t:TypeId} {f off:Nat} {ft:TypeId} (h:ACR P t f off=some ft):∃ fs fd,P.underlying t=some (.struct fs)/\fs[f]? = some fd/\fd.offset=off/\fd.type=ft:=by
 unfold ACR at h
 split at h
 ·rename_i fs hu
  split at h
  ·rename_i fd hf
   split at h
   ·rename_i he
    simp only [BT] at h
    exact ⟨fs,fd,hu,hf,he,h⟩
   ·cases h
  ·cases h
 ·cases h
theorem Addr.add_none (b o k:Nat):(⟨b,o,none⟩:Addr).add k=⟨b,o+k,none⟩:=by unfold Addr.add; split<;>simp_all
def AFM (P:Program) (n:Nat) (o:Oper) (d:Nat) (x:Cr) (off:Nat):Bool :=
 LX o n d&&(match o.op with
  | .fieldAddr t y f=>Dl y x&&(match ACR P t f off with | some ft=>(match P.info? ft with | some i=>decide (i.size≠0) | none=>false) | none=>false)
  | _=>false)
theorem AGc {n:Nat} {o:Oper} {d:Nat} {x:Cr} {off:Nat} {cal:Gi} (h:AFM P n o d x off=true):Jx P n o (.fld d x off) cal:=by
 intro ρ kn r s act w H φ next Q hs hf hn hk hnext
 simp only [AFM,AE] at h
 obtain ⟨h1,h2⟩:=h
 obtain ⟨hd,hdn⟩:=By h1
 split at h2
 ·rename_i t y f ho
  simp only [AE] at h2
  obtain ⟨h2,h3⟩:=h2
  split at h3
  ·rename_i ft hft
   obtain ⟨fs,fd,hu,hfd,he,hty⟩:=AAq hft
   split at h3
   ·rename_i i hi
    simp only [ne_eq,decide_not,EY,decide_eq_false_iff_not] at h3
    have hv:=Bg hf h2
    have hrun:∀ b o0,act.eval y=.pointer (some ⟨b,o0,none⟩)->∀ w2,EN o act w w2->(execOp act.eval o).run P w2=.ok (.value (.pointer (some ⟨b,o0+off,none⟩))) w2:=by
     intro b o0 hp w _
     simp [execOp,ho,Instr.fieldAt,run_underlying hu,hfd,hp,Instr.sureAddr,fieldPlace,sizeOf,typeInfo,hty,hi,h3,he,Addr.add_none]
    simp only [Ef] at hk
    cases hx:s.opd x with
    | ptr id o0 =>
     rw [hx] at hk hv
     obtain ⟨hva,b,e1,e2⟩:=hv
     exact Bk hs hf hn hd hdn hk (hrun _ _ e2) ⟨hva,b,e1,rfl⟩ hnext
    | eptr id i o0 =>
     rw [hx] at hk hv
     obtain ⟨b,m,cap,K,e1,e2,e3,e4⟩:=hv
     exact Bk hs hf hn hd hdn hk (hrun _ _ e4) ⟨b,m,cap,K,e1,e2,e3,by rw [Nat.add_assoc]⟩ hnext
    | fptr cs o0 =>
     rw [hx] at hk hv
     obtain ⟨b,q,c,el,fz,e1,e2⟩:=hv
     exact Bk hs hf hn hd hdn hk (hrun _ _ e1) ⟨b,q,c,el,fz,by rw [Nat.add_assoc],e2⟩ hnext
    | _=>rw [hx] at hk; cases hk
   ·cases h3
  ·cases h3
 ·cases h2

theorem uQ {t:TypeId} {w:World} (h:dz P t true=true):(isAgg t).run P w=.ok true w:=by
 obtain ⟨d,hu,hd⟩:=o4 h
 unfold isAgg
 rw [Sem.run_bind,run_underlying hu w]
 cases d<;>simp_all [TypeDesc.isRow]
theorem sE {t:TypeId} {w:World} (h:dz P t false=true):(isAgg t).run P w=.ok false w:=by
 obtain ⟨d,hu,hd⟩:=uK h
 unfold isAgg
 rw [Sem.run_bind,run_underlying hu w]
 cases d<;>simp_all [TypeDesc.isRow]
theorem IQ {t:TypeId} {w:World} {cs:Array Value} {off:Nat} {v:Value} (h:dz P t false=true) (hv:cs[off]? = some v):(Go.part t cs off).run P w=.ok v w:=by
 simp [Go.part,sE h,hv]
theorem mA {t:TypeId} {w:World} {cs:Array Value} {off k:Nat} (h:dz P t true=true) (hk:szB P t k=true):(Go.part t cs off).run P w=.ok (.agg (cs.extract off (off+k))) w:=by
 have hs:=TX hk
 cases hi:P.info? t with
 | none=>simp [hi] at hs
 | some i =>
  have hs:i.size=k:=by simpa [hi] using hs
  simp [Go.part,uQ h,sizeOf,typeInfo,hi,hs]
def mB (P:Program) (t:TypeId):Option Nat->Bool
 | some k=>szB P t k&&dz P t true
 | none=>dz P t false
theorem AAr {R:AV->Value->Prop} {t:TypeId} {m:Option Nat} {aw:List AV} {cs:Array Value} {off:Nat} (hm:mB P t m=true) (h:Az R aw cs.toList) (hl:off+m.getD 1<=aw.length) :
  ∃ v,(∀ w,(Go.part t cs off).run P w=.ok v w) /\
   (match m with | some k=>∃ arr,v=.agg arr/\Az R ((aw.drop off).take k) arr.toList | none=>R ((aw.drop off).headD .undef) v):=by
 cases m with
 | some k =>
  simp only [mB,AE] at hm
  refine ⟨_,fun _=>mA hm.2 hm.1,_,rfl,?_⟩
  have:=(h.drop off).take k
  simpa [List.extract] using this
 | none =>
  simp only [Option.getD_none] at hl
  obtain ⟨v,hv,hr⟩:=h.get off aw[off] (by simp)
  refine ⟨v,fun _=>IQ hm (by simpa using hv),?_⟩
  have e:(aw.drop off).headD .undef=aw[off]:=by
   rw [List.drop_eq_getElem_cons (by omega)]
   rfl
  simp only [e]
  exact hr
def zb (P:Program) (n:Nat) (o:Oper) (d:Nat) (x:Cr) (off:Nat) (m:Option Nat):Bool :=
 LX o n d&&(match o.op with
  | .field t y f=>Dl y x&&(match ACR P t f off with | some ft=>mB P ft m | none=>false)
  | _=>false)
theorem AD1 {n:Nat} {o:Oper} {d:Nat} {x:Cr} {off:Nat} {m:Option Nat} {cal:Gi} (h:zb P n o d x off m=true):Jx P n o (.field d x off m) cal:=by
 intro ρ kn r s act w H φ next Q hs hf hn hk hnext
 simp only [zb,AE] at h
 obtain ⟨h1,h2⟩:=h
 obtain ⟨hd,hdn⟩:=By h1
 split at h2
 ·rename_i t y f ho
  simp only [AE] at h2
  obtain ⟨h2,h3⟩:=h2
  split at h3
  ·rename_i ft hft
   obtain ⟨fs,fd,hu,hfd,he,hty⟩:=AAq hft
   have hv:=Bg hf h2
   simp only [Ef] at hk
   cases hx:s.opd x with
   | agg cs =>
    rw [hx] at hk hv
    simp only at hk
    obtain ⟨arr,ev,hv⟩:=hv
    split at hk
    ·rename_i hl
     obtain ⟨v,hrun,hr⟩:=AAr h3 hv hl
     refine Bk hs hf hn hd hdn hk (v:=v) ?_ ?_ hnext
     ·intro w2 _
      simp [execOp,ho,Instr.field,run_underlying hu,hfd,ev,asAgg,hty,he,hrun]
     ·cases m with
      | some k=>exact hr
      | none=>exact VA.of_VC hr
    ·cases hk
   | _=>rw [hx] at hk; cases hk
  ·cases h3
 ·cases h2
def AFN (P:Program) (n:Nat) (o:Oper) (d:Nat) (k:IntKind) (x:Cr):Bool :=
 LX o n d&&(match o.op with
  | .convert src dst y=>Dl y x&&(P.underlying src).isSome&&(match P.underlying dst with | some (.int k')=>decide (k'=k) | _=>false)
  | _=>false)
theorem AGd {n:Nat} {o:Oper} {d:Nat} {k:IntKind} {x:Cr} {cal:Gi} (h:AFN P n o d k x=true):Jx P n o (.cvi d k x) cal:=by
 intro ρ kn r s act w H φ next Q hs hf hn hk hnext
 simp only [AFN,AE] at h
 obtain ⟨h1,h2⟩:=h
 obtain ⟨hd,hdn⟩:=By h1
 split at h2
 ·rename_i src dst y ho
  simp only [AE] at h2
  obtain ⟨⟨h2,h3⟩,h4⟩:=h2
  split at h4
  ·rename_i k' hk'
   simp only [decide_eq_true_eq] at h4
   subst h4
   obtain ⟨ds,hds⟩:=Option.isSome_iff_exists.1 h3
   have hv:=Bg hf h2
   simp only [Ef] at hk
   cases hx:s.opd x with
   | int k0 m =>
    rw [hx] at hk hv
    have hv:act.eval y=.int k0 m:=hv
    refine Bk hs hf hn hd hdn hk (v:=.int k' (k'.wrap m)) ?_ rfl hnext
    intro w2 _
    simp [execOp,ho,hv,convert,run_underlying hds,run_underlying hk',Conv.intToInt]
   | _=>rw [hx] at hk; cases hk
  ·cases h4
 ·cases h2
def unB (n:Nat) (o:Oper) (d:Nat) (u:UnOp) (x:Cr):Bool :=
 LX o n d&&(match o.op with | .unOp u' _ y=>Dl y x&&(match u,u' with | .not,.not=>true | .neg,.neg=>true | _,_=>false) | _=>false)
theorem AHN {n:Nat} {o:Oper} {d:Nat} {u:UnOp} {x:Cr} {cal:Gi} (h:unB n o d u x=true):Jx P n o (.un d u x) cal:=by
 intro ρ kn r s act w H φ next Q hs hf hn hk hnext
 simp only [unB,AE] at h
 obtain ⟨h1,h2⟩:=h
 obtain ⟨hd,hdn⟩:=By h1
 split at h2
 ·rename_i u' t y ho
  simp only [AE] at h2
  obtain ⟨h2,h3⟩:=h2
  have hv:=Bg hf h2
  simp only [Ef] at hk
  split at h3
  ·cases hx:s.opd x with
   | bool b =>
    rw [hx] at hk hv
    simp only [AC4] at hk
    have hv:act.eval y=.bool b:=hv
    exact Bk hs hf hn hd hdn hk (v:=.bool (!b)) (fun _ _=>by simp [execOp,ho,hv,Op.unary]) rfl hnext
   | _=>rw [hx] at hk; cases hk
  ·cases hx:s.opd x with
   | int k m =>
    rw [hx] at hk hv
    simp only [AC4] at hk
    have hv:act.eval y=.int k m:=hv
    exact Bk hs hf hn hd hdn hk (v:=.int k (k.wrap (0-m))) (fun _ _=>by simp [execOp,ho,hv,Op.unary,Op.intArith]) rfl hnext
   | _=>rw [hx] at hk; cases hk
  ·cases h3
 ·cases h2
def AFO (n:Nat) (o:Oper) (d:Nat) (x:Cr) (i:Nat):Bool :=
 LX o n d&&(match o.op with | .extract y i'=>Dl y x&&i'==i | _=>false)
theorem AGe {n:Nat} {o:Oper} {d:Nat} {x:Cr} {i:Nat} {cal:Gi} (h:AFO n o d x i=true):Jx P n o (.ext d x i) cal:=by
 intro ρ kn r s act w H φ next Q hs hf hn hk hnext
 simp only [AFO,AE] at h
 obtain ⟨h1,h2⟩:=h
 obtain ⟨hd,hdn⟩:=By h1
 split at h2
 ·rename_i y i' ho
  simp only [AE,beq_iff_eq] at h2
  obtain ⟨h2,rfl⟩:=h2
  have hv:=Bg hf h2
  simp only [Ef] at hk
  cases hx:s.opd x with
  | tup vs =>
   rw [hx] at hk hv
   simp only at hk
   obtain ⟨arr,ev,hv⟩:=hv
   split at hk
   ·rename_i hi
    obtain ⟨v,hv1,hv2⟩:=hv.get i' vs[i'] (by simp)
    have hv1:arr[i']? = some v:=by simpa using hv1
    have e:vs.getD i' .undef=vs[i']:=by simp [List.getD,hi]
    rw [e] at hk
    exact Bk hs hf hn hd hdn hk (v:=v) (fun _ _=>by simp [execOp,ho,ev,Instr.extract,hv1]) (VA.of_VB hv2) hnext
   ·cases hk
  | _=>rw [hx] at hk; cases hk
 ·cases h2
def fnB (n:Nat) (o:Oper) (d:Nat) (f:Nat) (caps:List Cr):Bool :=
 LX o n d&&caps.isEmpty&&(match o.op with | .makeFunc (.func f') first captured=>f'==f&&first.isEmpty&&captured.isEmpty | _=>false)
theorem AHO {n:Nat} {o:Oper} {d f:Nat} {caps:List Cr} {cal:Gi} (h:fnB n o d f caps=true):Jx P n o (.fn d f caps) cal:=by
 intro ρ kn r s act w H φ next Q hs hf hn hk hnext
 simp only [fnB,AE,List.isEmpty_iff] at h
 obtain ⟨⟨h1,rfl⟩,h2⟩:=h
 obtain ⟨hd,hdn⟩:=By h1
 split at h2
 ·rename_i f' first captured ho
  simp only [AE,beq_iff_eq,Array.isEmpty_iff] at h2
  obtain ⟨⟨rfl,rfl⟩,rfl⟩:=h2
  exact Bk hs hf hn hd hdn hk (v:=.func (.func f') #[] #[]) (fun _ _=>by simp [execOp,ho,Instr.makeFunc]) ⟨rfl,rfl⟩ hnext
 ·cases h2

def AFP (n:Nat) (o:Oper) (d:Nat) (b:BinOp) (x y:Cr):Bool :=
 LX o n d&&(match o.op with | .binOp b' _ x' y' _=>Dl x' x&&Dl y' y&&decide (b'=b) | _=>false)
theorem ADB {act:Act} {w:World} {o:Oper} {b:BinOp} {t yt:TypeId} {x y:Operand} {v:Value} (ho:o.op=.binOp b t x y yt)
  (hg:eqGuard b t x y (act.eval x) (act.eval y)=pure ()) (h:(binOp b t (act.eval x) (act.eval y)).run P w=.ok v w):(execOp act.eval o).run P w=.ok (.value v) w:=by
 simp [execOp,ho,hg,h]
theorem AD2 {ρ:Type} {b:BinOp} {x y:AV} {kn:AV->Option ρ} {r:ρ} (h:rU b x y kn=some r) {vx vy:Value} {H:HP} {φ:CQ} {st:List AX} (hx:VA H φ st x vx) (hy:VA H φ st y vy) (t:TypeId) :
  ∃ a v,kn a=some r/\VF H a v/\(∀ w,(binOp b t vx vy).run P w=.ok v w)/\∀ ox oy,eqGuard b t ox oy vx vy=pure ():=by
 unfold rU at h
 split at h
 ·rename_i k a k' c
  have hx:vx=.int k a:=hx
  have hy:vy=.int k' c:=hy
  subst hx hy
  have hg:∀ ox oy,eqGuard b t ox oy (.int k a) (.int k' c)=pure ():=fun ox oy=>eqGuard_at_int ..
  split at h
  ·split at h
   ·cases h
   ·rename_i h0
    exact ⟨_,.int k (k.wrap (a*2^(min c.toNat k.bits))),h,rfl,by simp [binOp,Op.shift,h0],hg⟩
  ·split at h
   ·cases h
   ·rename_i h0
    exact ⟨_,.int k (a.fdiv (2^(min c.toNat k.bits))),h,rfl,by simp [binOp,Op.shift,h0],hg⟩
  ·split at h
   ·rename_i n1 n2 hk
    subst hk
    split at h
    ·exact ⟨_,.int k (k.wrap (a+c)),h,rfl,by simp [binOp,Op.intArith],hg⟩
    ·exact ⟨_,.int k (k.wrap (a-c)),h,rfl,by simp [binOp,Op.intArith],hg⟩
    ·exact ⟨_,.int k (k.wrap (a*c)),h,rfl,by simp [binOp,Op.intArith],hg⟩
    ·split at h
     ·cases h
     ·rename_i h0
      exact ⟨_,.int k (k.wrap (a.tdiv c)),h,rfl,by simp [binOp,Op.intDiv,h0],hg⟩
    ·split at h
     ·cases h
     ·rename_i h0
      exact ⟨_,.int k (a.tmod c),h,rfl,by simp [binOp,Op.intDiv,h0],hg⟩
    ·exact ⟨_,.int k (NL k a c),h,rfl,by simp [binOp,Op.intBits,NL],hg⟩
    ·exact ⟨_,.int k (ABl k a c),h,rfl,by simp [binOp,Op.intBits,ABl],hg⟩
    ·exact ⟨_,.int k (ld k a c),h,rfl,by simp [binOp,Op.intBits,ld],hg⟩
    ·exact ⟨_,.bool (a==c),h,rfl,by simp [binOp,Op.intCmp],hg⟩
    ·exact ⟨_,.bool (a != c),h,rfl,by simp [binOp,Op.intCmp],hg⟩
    ·exact ⟨_,.bool (a<c),h,rfl,by simp [binOp,Op.intCmp],hg⟩
    ·exact ⟨_,.bool (a<=c),h,rfl,by simp [binOp,Op.intCmp],hg⟩
    ·exact ⟨_,.bool (a>c),h,rfl,by simp [binOp,Op.intCmp],hg⟩
    ·exact ⟨_,.bool (a>=c),h,rfl,by simp [binOp,Op.intCmp],hg⟩
    ·cases h
   ·cases h
 ·rename_i a c
  have hx:vx=.string a:=hx
  have hy:vy=.string c:=hy
  subst hx hy
  have hg:∀ ox oy,eqGuard b t ox oy (.string a) (.string c)=pure ():=fun ox oy=>eqGuard_at_string ..
  split at h
  ·split at h
   ·rename_i hle
    refine ⟨_,.string (a++c),h,rfl,?_,hg⟩
    have hmax:IntKind.i64.max=9223372036854775807:=by decide
    have:¬ (((a.size+c.size:Nat):Int)>IntKind.i64.max):=by rw [hmax]; omega
    simp [binOp,Op.stringOp,hmax]
    omega
   ·cases h
  ·exact ⟨_,.bool (a.toList==c.toList),h,rfl,by simp [binOp,Op.stringOp],hg⟩
  ·exact ⟨_,.bool (!(a.toList==c.toList)),h,rfl,by simp [binOp,Op.stringOp],hg⟩
  ·exact ⟨_,.bool (Op.bytesLess a.toList c.toList),h,rfl,by simp [binOp,Op.stringOp],hg⟩
  ·exact ⟨_,.bool (Op.bytesLess a.toList c.toList||a.toList==c.toList),h,rfl,by simp [binOp,Op.stringOp],hg⟩
  ·exact ⟨_,.bool (!(Op.bytesLess a.toList c.toList||a.toList==c.toList)),h,rfl,by simp [binOp,Op.stringOp],hg⟩
  ·exact ⟨_,.bool (!(Op.bytesLess a.toList c.toList)),h,rfl,by simp [binOp,Op.stringOp],hg⟩
  ·cases h
 ·cases h
theorem AGf {n:Nat} {o:Oper} {d:Nat} {b:BinOp} {x y:Cr} {cal:Gi} (h:AFP n o d b x y=true):Jx P n o (.bin d b x y) cal:=by
 intro ρ kn r s act w H φ next Q hs hf hn hk hnext
 simp only [AFP,AE] at h
 obtain ⟨h1,h2⟩:=h
 obtain ⟨hd,hdn⟩:=By h1
 split at h2
 ·rename_i b' t x' y' yt ho
  simp only [AE,decide_eq_true_eq] at h2
  obtain ⟨⟨hx,hy⟩,rfl⟩:=h2
  simp only [Ef] at hk
  obtain ⟨a,v,hk',hv,hrun,hg⟩:=AD2 (P:=P) hk (Bg hf hx) (Bg hf hy) t
  exact Bk hs hf hn hd hdn hk' (fun w2 _=>ADB ho (hg _ _) (hrun w2)) (VA.of_VF hv) hnext
 ·cases h2
def d8:Kd->Option Nat
 | .pair a b=>some (Kd.pair a b).sz
 | _=>none
mutual
def ADC (P:Program):Nat->TypeId->Kd->Bool
 | 0,_,_=>false
 | D+1,t,K=>match P.underlying t with
  | some (.int _)=>(match K with | .int _=>true | _=>false)
  | some .bool=>(match K with | .bool=>true | _=>false)
  | some .string=>(match K with | .str=>true | _=>false)
  | some (.struct fs)=>!P.stoodInHeld t&&(match K with | .pair a b=>ADD P D fs.toList 0 (.pair a b) | _=>false)
  | _=>false
def ADD (P:Program):Nat->List Field->Nat->Kd->Bool
 | 0,_,_,_=>false
 | _,[],_,_=>false
 | D+1,f::fs,off,K=>decide (f.name ≠ "_")&&f.offset==off &&
  (if fs.isEmpty then mB P f.type (d8 K)&&ADC P D f.type K
  else match K with
   | .pair a b=>mB P f.type (d8 a)&&ADC P D f.type a&&ADD P D fs (off+a.sz) b
   | _=>false)
end
def Qd:Kd->Value->Prop
 | .pair _ _,v=>∃ arr,v=.agg arr
 | _,v=>v.cells=#[v]
theorem mC {H:HP} {K:Kd} {x:K.T} {xs:Array Value} {off:Nat} {t:TypeId} (w:World) (h:Gj H K x ((xs.toList.drop off).take K.sz)) (ht:mB P t (d8 K)=true) :
  ∃ v,(Go.part t xs off).run P w=.ok v w/\Gj H K x v.cells.toList/\Qd K v:=by
 have one:∀ v,(xs.toList.drop off).take 1=[v]->xs[off]? = some v:=by
  intro v e
  have e1:((xs.toList.drop off).take 1)[0]? = some v:=by rw [e]; rfl
  rw [CA] at e1
  simpa using e1
 cases K with
 | int k =>
  have hv:=one (.int k x) h
  exact ⟨_,IQ ht hv,rfl,rfl⟩
 | bool =>
  have hv:=one (.bool x) h
  exact ⟨_,IQ ht hv,rfl,rfl⟩
 | str =>
  have hv:=one (.string x) h
  exact ⟨_,IQ ht hv,rfl,rfl⟩
 | slice e =>
  obtain ⟨v,hv,hr⟩:=h
  have hv:=one v hv
  have hc:v.cells=#[v]:=by obtain ⟨a,cap,e1,_⟩:=hr; subst e1; rfl
  exact ⟨v,IQ ht hv,⟨v,by rw [hc],hr⟩,hc⟩
 | pair a b =>
  simp only [d8,mB,AE] at ht
  refine ⟨_,mA ht.2 ht.1,?_,⟨_,rfl⟩⟩
  simpa [Value.cells,List.extract] using h
 | own t e=>exact h.elim
 | ref K=>exact h.elim
 | «fun» f =>
  have hv:=one _ h
  exact ⟨_,IQ ht hv,rfl,rfl⟩
 | clo f K =>
  obtain ⟨v,hv,hr⟩:=h
  have hv:=one v hv
  have hc:v.cells=#[v]:=by obtain ⟨b,o,c,el,fz,e1,_⟩:=hr; subst e1; rfl
  exact ⟨v,IQ ht hv,⟨v,by rw [hc],hr⟩,hc⟩
mutual
theorem zc {H:HP} (w:World):∀ (D d:Nat) (t:TypeId) (K:Kd) (x y:K.T) (v u:Value),ADC P D t K=true->D<=d->Gj H K x v.cells.toList->Gj H K y u.cells.toList->Qd K v->Qd K u ->
  (Op.equalIn d t v u).run P w=.ok (dy K x y) w
 | 0,_,_,_,_,_,_,_,h,_,_,_,_,_=>by simp [ADC] at h
 | D+1,0,_,_,_,_,_,_,_,h,_,_,_,_=>by omega
 | D+1,d+1,t,K,x,y,v,u,h,hd,hx,hy,fx,fy=>by
  unfold ADC at h
  split at h
  ·rename_i k hu
   cases K<;>first | cases h | skip
   rename_i k'
   simp only [Qd] at fx fy
   simp only [fx,fy,Gj] at hx hy
   simp only [List.cons.injEq,and_true] at hx hy
   subst hx hy
   exact run_equalIn_int w d t k' k x y hu
  ·rename_i hu
   cases K<;>first | cases h | skip
   simp only [Qd] at fx fy
   simp only [fx,fy,Gj] at hx hy
   simp only [List.cons.injEq,and_true] at hx hy
   subst hx hy
   exact run_equalIn_bool w d t x y hu
  ·rename_i hu
   cases K<;>first | cases h | skip
   simp only [Qd] at fx fy
   simp only [fx,fy,Gj] at hx hy
   simp only [List.cons.injEq,and_true] at hx hy
   subst hx hy
   exact run_equalIn_string w d t x y hu
  ·rename_i fs hu
   simp only [AE,EY] at h
   obtain ⟨h0,h⟩:=h
   cases K with
   | pair a b =>
    obtain ⟨xs,rfl⟩:=fx
    obtain ⟨ys,rfl⟩:=fy
    have hfo:P.fieldsOf t=fs:=by simp [Program.fieldsOf,hu]
    rw [run_equalIn_struct w d t xs ys (by rw [hfo]; exact hu) h0,hfo]
    refine ACS (H:=H) w D d fs.toList 0 (.pair a b) x y xs ys h (by omega) ?_ ?_
    ·have:=hx.length
     simp only [Value.cells] at hx this
     simp only [List.drop_zero]
     rw [List.take_of_length_le (by omega)]
     exact hx
    ·have:=hy.length
     simp only [Value.cells] at hy this
     simp only [List.drop_zero]
     rw [List.take_of_length_le (by omega)]
     exact hy
   | _=>cases h
  ·cases h
theorem ACS {H:HP} (w:World):∀ (D d:Nat) (fs:List Field) (off:Nat) (K:Kd) (x y:K.T) (xs ys:Array Value),ADD P D fs off K=true->D<=d ->
  Gj H K x ((xs.toList.drop off).take K.sz)->Gj H K y ((ys.toList.drop off).take K.sz)->(Op.eqFields d xs ys fs).run P w=.ok (dy K x y) w
 | 0,_,_,_,_,_,_,_,_,h,_,_,_=>by simp [ADD] at h
 | D+1,_,[],_,_,_,_,_,_,h,_,_,_=>by simp [ADD] at h
 | D+1,d,f::fs,off,K,x,y,xs,ys,h,hd,hx,hy=>by
  unfold ADD at h
  simp only [AE,decide_eq_true_eq,beq_iff_eq] at h
  obtain ⟨⟨hnm,hoff⟩,h⟩:=h
  subst hoff
  split at h
  ·rename_i he
   have he:fs=[]:=by simpa using he
   subst he
   simp only [AE] at h
   obtain ⟨v,r1,r2,r3⟩:=mC w hx h.1
   obtain ⟨u,s1,s2,s3⟩:=mC w hy h.1
   have hq:=zc w D d f.type K x y v u h.2 (by omega) r2 s2 r3 s3
   simp only [Op.eqFields,if_pos hnm,Sem.run_bind,r1,s1,hq,Result.andThen_ok]
   cases dy K x y<;>simp
  ·cases K with
   | pair a b =>
    simp only [AE] at h
    obtain ⟨⟨h1,h2⟩,h3⟩:=h
    have cut:∀ {z:(Kd.pair a b).T} {zs:Array Value},Gj H (.pair a b) z ((zs.toList.drop f.offset).take (Kd.pair a b).sz) ->
      Gj H a z.1 ((zs.toList.drop f.offset).take a.sz)/\Gj H b z.2 ((zs.toList.drop (f.offset+a.sz)).take b.sz):=by
     intro z zs hz
     obtain ⟨c1,c2,e,g1,g2⟩:=hz
     have l1:=g1.length
     have l2:=g2.length
     have e1:(zs.toList.drop f.offset).take a.sz=c1:=by
      have h1:=congrArg (List.take a.sz) e
      rw [List.take_take,show min a.sz (Kd.pair a b).sz=a.sz by simp [Kd.sz]] at h1
      rw [h1,<- l1]
      simp
     have e2:(zs.toList.drop (f.offset+a.sz)).take b.sz=c2:=by
      have h1:=congrArg (List.drop a.sz) e
      rw [List.drop_take,List.drop_drop,show (Kd.pair a b).sz-a.sz=b.sz by simp [Kd.sz]] at h1
      rw [h1,<- l1]
      simp
     exact ⟨by rw [e1]; exact g1,by rw [e2]; exact g2⟩
    obtain ⟨hx1,hx2⟩:=cut hx
    obtain ⟨hy1,hy2⟩:=cut hy
    obtain ⟨v,r1,r2,r3⟩:=mC w hx1 h1
    obtain ⟨u,s1,s2,s3⟩:=mC w hy1 h1
    have hq:=zc w D d f.type a x.1 y.1 v u h2 (by omega) r2 s2 r3 s3
    simp only [Op.eqFields,if_pos hnm,Sem.run_bind,r1,s1,hq,Result.andThen_ok,dy]
    cases dy a x.1 y.1 with
    | false=>simp
    | true =>
     simp only [Bool.not_true,Bool.false_eq_true,if_false,Bool.true_and]
     exact ACS w D d fs _ b x.2 y.2 xs ys h3 (by omega) hx2 hy2
   | _=>cases h
end
def AV.closed (a:AV):Bool:=a.solid||a.isNew
theorem VC.closed {H:HP} {φ:CQ} {st:List AX} {a:AV} {v:Value} (hs:a.closed=true) (h:VC H φ st a v):VF H a v:=by
 cases a<;>first | exact h | cases hs
theorem VCs.closed {H:HP} {φ:CQ} {st:List AX} {aw:List AV} {vs:List Value} (hs:aw.all AV.closed=true) (h:Az (VC H φ st) aw vs):Jz H aw vs :=
 JK.2 (h.impM fun a ha _ g=>VC.closed (Bp.1 hs a ha) g)
theorem ADE:∀ (K:Kd) {aw:List AV} {x:K.T} {r:List AV},K.dec aw=some (x,r)->∃ c,aw=c++r/\c.all AV.closed=true:=by
 intro K
 induction K with
 | int k =>
  intro aw x r hd
  cases aw with
  | nil=>simp [Kd.dec] at hd
  | cons a aw =>
   cases a<;>simp [Kd.dec] at hd
   obtain ⟨rfl,rfl,rfl⟩:=hd
   exact ⟨[_],rfl,rfl⟩
 | bool =>
  intro aw x r hd
  cases aw with
  | nil=>simp [Kd.dec] at hd
  | cons a aw =>
   cases a<;>simp [Kd.dec] at hd
   obtain ⟨rfl,rfl⟩:=hd
   exact ⟨[_],rfl,rfl⟩
 | str =>
  intro aw x r hd
  cases aw with
  | nil=>simp [Kd.dec] at hd
  | cons a aw =>
   cases a<;>simp [Kd.dec] at hd
   obtain ⟨rfl,rfl⟩:=hd
   exact ⟨[_],rfl,rfl⟩
 | slice e ih =>
  intro aw x r hd
  cases aw with
  | nil=>simp [Kd.dec] at hd
  | cons a aw =>
   cases a with
   | nil =>
    simp only [Kd.dec,BT,Prod.mk.injEq] at hd
    obtain ⟨rfl,rfl⟩:=hd
    exact ⟨[_],rfl,rfl⟩
   | lst K xs =>
    simp only [Kd.dec] at hd
    split at hd
    ·rename_i hk
     subst hk
     simp only [BT,Prod.mk.injEq] at hd
     obtain ⟨rfl,rfl⟩:=hd
     exact ⟨[_],rfl,rfl⟩
    ·cases hd
   | _=>simp [Kd.dec] at hd
 | pair a b iha ihb =>
  intro aw x r hd
  simp only [Kd.dec] at hd
  cases hx:a.dec aw with
  | none=>simp [hx] at hd
  | some xa =>
   obtain ⟨xa,ra⟩:=xa
   simp only [hx,AA] at hd
   cases hy:b.dec ra with
   | none=>simp [hy] at hd
   | some yb =>
    obtain ⟨yb,rb⟩:=yb
    simp only [hy,AA,BT,Prod.mk.injEq] at hd
    obtain ⟨rfl,rfl⟩:=hd
    obtain ⟨c1,e1,h1⟩:=iha hx
    obtain ⟨c2,e2,h2⟩:=ihb hy
    exact ⟨c1++c2,by rw [e1,e2,Bf],by simp only [List.all_append,h1,h2,Bool.and_self]⟩
 | own t e ih =>
  intro aw x r hd
  cases aw with
  | nil=>simp [Kd.dec] at hd
  | cons a aw =>
   cases a with
   | new t' e' xs =>
    simp only [Kd.dec] at hd
    split at hd
    ·split at hd
     ·rename_i hk
      subst hk
      cases hd
      exact ⟨[_],rfl,rfl⟩
     ·cases hd
    ·cases hd
   | _=>simp [Kd.dec] at hd
 | ref K ih =>
  intro aw x r hd
  cases aw with
  | nil=>simp [Kd.dec] at hd
  | cons a aw =>
   cases a with
   | ref cs =>
    simp only [Kd.dec] at hd
    cases h1:K.dec cs with
    | none=>rw [h1] at hd; cases hd
    | some p =>
     rw [h1] at hd
     simp only [AA] at hd
     split at hd
     ·cases hd
      exact ⟨[_],rfl,rfl⟩
     ·cases hd
   | _=>simp [Kd.dec] at hd
 | «fun» f =>
  intro aw x r hd
  cases aw with
  | nil=>simp [Kd.dec] at hd
  | cons a aw =>
   cases a with
   | fn f' caps =>
    cases caps with
    | nil =>
     simp only [Kd.dec] at hd
     split at hd
     ·cases hd
      exact ⟨[_],rfl,rfl⟩
     ·cases hd
    | cons _ _=>simp [Kd.dec] at hd
   | _=>simp [Kd.dec] at hd
 | clo f K ih =>
  intro aw x r hd
  cases aw with
  | nil=>simp [Kd.dec] at hd
  | cons a aw =>
   cases a with
   | clo f' K' y =>
    simp only [Kd.dec] at hd
    split at hd
    ·split at hd
     ·rename_i hk
      subst hk
      cases hd
      exact ⟨[_],rfl,rfl⟩
     ·cases hd
    ·cases hd
   | _=>simp [Kd.dec] at hd
theorem Gk {K:Kd} {cs:List AV} {x:K.T} (h:K.ofCells cs=some x):K.dec cs=some (x,[]):=by
 unfold Kd.ofCells at h
 cases hd:K.dec cs with
 | none=>rw [hd] at h; cases h
 | some y =>
  obtain ⟨y,r⟩:=y
  rw [hd] at h
  simp only [AA] at h
  cases r with
  | nil=>simpa using h
  | cons _ _=>cases h
theorem AD3 {K:Kd} {a:AV} {x:K.T} (h:K.of a=some x):K.dec a.cells=some (x,[])/\AV.fits K a=true:=by
 unfold Kd.of at h
 split at h
 ·rename_i hf
  exact ⟨Gk h,hf⟩
 ·cases h
theorem YO {H:HP} {φ:CQ} {st:List AX} {a:AV} {v:Value} (h:VC H φ st a v):a.cells=[a]:=by
 cases a<;>first | rfl | exact h.elim
theorem Gj.vcells {H:HP} {K:Kd} {x:K.T} {v:Value} (h:Gj H K x [v]):v.cells=#[v]:=by
 cases K with
 | int k=>cases h; rfl
 | bool=>cases h; rfl
 | str=>cases h; rfl
 | slice e=>obtain ⟨u,e1,a,cap,e2,_⟩:=h; cases e1; subst e2; rfl
 | own t e=>exact h.elim
 | ref K=>exact h.elim
 | «fun» f=>cases h; rfl
 | clo f K=>obtain ⟨u,e1,b,o,c,el,fz,e2,_⟩:=h; cases e1; subst e2; rfl
 | pair a b=>have:=h.length; have h1:=Kd.sz_pos a; have h2:=Kd.sz_pos b; simp [Kd.sz] at this; omega
theorem of_rep {H:HP} {K:Kd} {a:AV} {v:Value} {x:K.T} {φ:CQ} {st:List AX} (hv:VA H φ st a v) (h:K.of a=some x) :
  Gj H K x v.cells.toList/\Qd K v:=by
 obtain ⟨hd,hf⟩:=AD3 h
 obtain ⟨c,e,hs⟩:=ADE K hd
 rw [List.append_nil] at e
 rcases hv.cases with ⟨cs,arr,rfl,rfl,hc⟩ | ⟨vs,arr,rfl,_,_⟩ | hc
 ·simp only [AV.cells] at hd e
  subst e
  obtain ⟨c1,c2,e1,e2,e3⟩:=IN K (VCs.closed hs hc) hd
  cases e3
  simp only [List.append_nil] at e1
  refine ⟨by simp only [Value.cells]; rw [e1]; exact e2,?_⟩
  cases K with
  | pair a b=>exact ⟨_,rfl⟩
  | _=>cases hf
 ·simp only [AV.cells] at e
  subst e
  cases hs
 ·rw [YO hc] at hd e
  subst e
  have hs:a.closed=true:=by simpa using hs
  obtain ⟨c1,c2,e1,e2,e3⟩:=IN K (aw:=[a]) (vs:=[v]) ⟨v,[],rfl,VC.closed hs hc,rfl⟩ hd
  cases e3
  rw [List.append_nil] at e1
  subst e1
  have hcell:=e2.vcells
  refine ⟨by rw [hcell]; exact e2,?_⟩
  cases K with
  | pair _ _ =>
   cases a<;>first | cases hf | skip
   all_goals cases hs
  | _=>exact hcell
def AFQ (P:Program) (n:Nat) (o:Oper) (d:Nat) (neg:Bool) (K:Kd) (x y:Cr):Bool :=
 LX o n d&&(match o.op with
  | .binOp b t x' y' _=>Dl x' x&&Dl y' y&&ADC P 40 t K&&(match b with | .eql=>!neg | .neq=>neg | _=>false) &&
   (match K with | .bool=>true | .pair _ _=>!P.eqGuardType P.depth t | _=>false)
  | _=>false)
theorem AGg {n:Nat} {o:Oper} {d:Nat} {neg:Bool} {K:Kd} {x y:Cr} {cal:Gi} (h:AFQ P n o d neg K x y=true):Jx P n o (.eqs d neg K x y) cal:=by
 intro ρ kn r s act w H φ next Q hs hf hn hk hnext
 simp only [AFQ,AE] at h
 obtain ⟨h1,h2⟩:=h
 obtain ⟨hd,hdn⟩:=By h1
 split at h2
 ·rename_i b t x' y' yt ho
  simp only [AE] at h2
  obtain ⟨⟨⟨⟨hx,hy⟩,ht⟩,hb⟩,hg⟩:=h2
  simp only [Ef] at hk
  ·cases hxa:K.of (s.opd x) with
   | none=>rw [hxa] at hk; cases hk
   | some xa =>
    cases hya:K.of (s.opd y) with
    | none=>rw [hxa,hya] at hk; cases hk
    | some ya =>
     rw [hxa,hya] at hk
     simp only [AA] at hk
     obtain ⟨rx,fx⟩:=of_rep (Bg hf hx) hxa
     obtain ⟨ry,fy⟩:=of_rep (Bg hf hy) hya
     have key:∀ w:World,(execOp act.eval o).run P w=.ok (.value (.bool (neg != dy K xa ya))) w:=by
      intro w
      have hq:=zc (P:=P) w 40 10000 t K xa ya _ _ ht (by omega) rx ry fx fy
      have hguard:(eqGuard b t x' y' (act.eval x') (act.eval y')).run P w=.ok () w:=by
       cases K with
       | bool =>
        simp only [Qd] at fx
        have rx:=rx
        simp only [fx,Gj,List.cons.injEq,and_true] at rx
        rw [rx,eqGuard_at_bool]
        rfl
       | pair a c =>
        obtain ⟨xs,ex⟩:=fx
        obtain ⟨ys,ey⟩:=fy
        rw [ex,ey]
        exact run_eqGuard_agg w b t x' y' xs ys (by simpa using hg)
       | _=>cases hg
      have hrun:(binOp b t (act.eval x') (act.eval y')).run P w=.ok (.bool (neg != dy K xa ya)) w:=by
       have hk2:∀ {vx vy:Value},(vx.cells=#[vx]->∃ c,vx=.bool c)->(vy.cells=#[vy]->∃ c,vy=.bool c)->(Op.equalIn 10000 t vx vy).run P w=.ok (dy K xa ya) w ->
         (binOp b t vx vy).run P w=.ok (.bool (neg != dy K xa ya)) w:=by
        intro vx vy hvx hvy he
        have cx:(∃ c,vx=.bool c)\/∃ c,vx=.agg c:=by
         cases vx<;>first | exact .inl (hvx rfl) | exact .inr ⟨_,rfl⟩
        have cy:(∃ c,vy=.bool c)\/∃ c,vy=.agg c:=by
         cases vy<;>first | exact .inl (hvy rfl) | exact .inr ⟨_,rfl⟩
        have e1:b=.eql->(binOp b t vx vy).run P w=.ok (.bool (dy K xa ya)) w:=by
         intro e; subst e
         rcases cx with ⟨c,rfl⟩ | ⟨c,rfl⟩<;>rcases cy with ⟨c',rfl⟩ | ⟨c',rfl⟩<;>simp [binOp,Op.equal,Op.maxDepth,he]
        have e2:b=.neq->(binOp b t vx vy).run P w=.ok (.bool (!dy K xa ya)) w:=by
         intro e; subst e
         rcases cx with ⟨c,rfl⟩ | ⟨c,rfl⟩<;>rcases cy with ⟨c',rfl⟩ | ⟨c',rfl⟩<;>simp [binOp,Op.equal,Op.maxDepth,he]
        cases b<;>first | cases hb | skip
        ·have:neg=false:=by simpa using hb
         subst this
         rw [e1 rfl]
         simp
        ·rw [e2 rfl]
         simp
       refine hk2 ?_ ?_ hq
       ·intro hc
        cases K with
        | bool=>simp only [hc,Gj,List.cons.injEq,and_true] at rx; exact ⟨_,rx⟩
        | pair a c=>obtain ⟨xs,ex⟩:=fx; rw [ex] at hc; exact absurd hc (by
          intro h
          have hsz:=rx.length
          rw [ex] at hsz
          have h2:=congrArg Array.size h
          have p1:=Kd.sz_pos a
          have p2:=Kd.sz_pos c
          simp [Value.cells,Kd.sz] at hsz h2
          omega)
        | _=>cases hg
       ·intro hc
        cases K with
        | bool=>simp only [hc,Gj,List.cons.injEq,and_true] at ry; exact ⟨_,ry⟩
        | pair a c=>obtain ⟨xs,ex⟩:=fy; rw [ex] at hc; exact absurd hc (by
          intro h
          have hsz:=ry.length
          rw [ex] at hsz
          have h2:=congrArg Array.size h
          have p1:=Kd.sz_pos a
          have p2:=Kd.sz_pos c
          simp [Value.cells,Kd.sz] at hsz h2
          omega)
        | _=>cases hg
      simp only [execOp,ho,Sem.run_bind,hguard,hrun,Result.andThen_ok,Sem.run_pure]
     exact Bk hs hf hn hd hdn hk (v:=.bool (neg != dy K xa ya)) (fun w2 _=>key w2) rfl hnext
 ·cases h2

def uR (P:Program) (t:TypeId):Bool:=match P.underlying t with | some .string=>true | _=>false
def gz (P:Program) (t:TypeId):Bool:=match P.underlying t with | some (.slice _)=>true | _=>false
theorem YP {t:TypeId} (h:uR P t=true):P.underlying t=some .string:=by
 unfold uR at h
 split at h
 ·assumption
 ·cases h
theorem TY {t:TypeId} (h:gz P t=true):P.underlying t=some (.slice (P.elem t)):=by
 unfold gz at h
 split at h
 ·rename_i e hu; simp [Program.elem,hu]
 ·cases h
def AFR (P:Program) (n:Nat) (o:Oper) (d:Nat) (isStr:Bool) (x:Cr):Bool :=
 LX o n d&&(match o.op with
  | .call ⟨.builtin .len,args,tys⟩=>(match args.toList,tys.toList with
   | [y],[t]=>Dl y x&&(if isStr then uR P t else gz P t)
   | _,_=>false)
  | _=>false)
theorem mD {act:Act} {w:World} {o:Oper} {y:Operand} {t:TypeId} {v:Value} {args:Array Operand} {tys:Array TypeId} (ho:o.op=.call ⟨.builtin .len,args,tys⟩)
  (ha:args.toList=[y]) (ht:tys.toList=[t]) (h:(Builtin.len_ #[t] o.type #[act.eval y]).run P w=.ok v w):(execOp act.eval o).run P w=.ok (.value v) w:=by
 have ha:args=#[y]:=by rw [<- ha]
 have ht:tys=#[t]:=by rw [<- ht]
 subst ha ht
 simp [execOp,ho,resolve,invoke,builtin,h]
theorem AGh {n:Nat} {o:Oper} {d:Nat} {isStr:Bool} {x:Cr} {cal:Gi} (h:AFR P n o d isStr x=true):Jx P n o (.len d isStr x) cal:=by
 intro ρ kn r s act w H φ next Q hs hf hn hk hnext
 simp only [AFR,AE] at h
 obtain ⟨h1,h2⟩:=h
 obtain ⟨hd,hdn⟩:=By h1
 split at h2
 ·rename_i args tys ho
  split at h2
  ·rename_i y t ha ht
   simp only [AE] at h2
   obtain ⟨h2,h3⟩:=h2
   have hv:=Bg hf h2
   simp only [Ef] at hk
   have slc:isStr=false->∀ (m:Nat) a cap,act.eval y=.slice a m cap->kn (s.put d (.int .i64 m))=some r->o.wp P act w next Q:=by
    intro e m a cap hy hk'
    subst e
    refine Bk hs hf hn hd hdn hk' (v:=goInt m) ?_ rfl hnext
    intro w2 _
    refine mD ho ha ht ?_
    rw [hy]
    exact run_len_slice w2 t _ a m cap (TY (by simpa using h3))
   cases hx:s.opd x with
   | str b =>
    rw [hx] at hk hv
    simp only at hk
    split at hk
    ·rename_i e
     subst e
     have hv:act.eval y=.string b:=hv
     refine Bk hs hf hn hd hdn hk (v:=goInt b.size) ?_ rfl hnext
     intro w2 _
     refine mD ho ha ht ?_
     rw [hv]
     exact run_len_string w2 t _ b (YP (by simpa using h3))
    ·cases hk
   | nil =>
    rw [hx] at hk hv
    simp only at hk
    split at hk
    ·cases hk
    ·rename_i e
     exact slc (by simpa using e) 0 none 0 hv hk
   | lst K xs =>
    rw [hx] at hk hv
    simp only at hk
    split at hk
    ·cases hk
    ·rename_i e
     obtain ⟨a,cap,ev,_⟩:=hv
     exact slc (by simpa using e) _ _ _ ev hk
   | row id =>
    rw [hx] at hk hv
    simp only at hk
    split at hk
    ·cases hk
    ·rename_i e
     obtain ⟨ev,_⟩:=hv
     cases hb:s.st[id]? with
     | none=>rw [hb] at hk; cases hk
     | some bx =>
      rw [hb] at hk
      have hbox:=hs.box id bx hb
      cases bx with
      | rows t' K xs =>
       obtain ⟨flat,ho',_⟩:=hbox
       rcases ho'.2 with ⟨e1,e2⟩ | ⟨g,cap,cur,e1,_⟩
       ·rw [e1] at ev
        have h0:xs.length=0:=e2
        simp only [h0] at hk
        exact slc (by simpa using e) 0 none 0 ev hk
       ·rw [e1] at ev
        exact slc (by simpa using e) _ _ _ ev hk
      | frz K xs =>
       obtain ⟨⟨a,cap,e1,_⟩,_⟩:=hbox
       rw [e1] at ev
       exact slc (by simpa using e) _ _ _ ev hk
      | mrow t' K xs =>
       obtain ⟨flat,ho',_⟩:=hbox
       rcases ho'.2 with ⟨e1,e2⟩ | ⟨g,cap,cur,e1,_⟩
       ·rw [e1] at ev
        have h0:xs.length=0:=e2
        simp only [h0] at hk
        exact slc (by simpa using e) 0 none 0 ev hk
       ·rw [e1] at ev
        exact slc (by simpa using e) _ _ _ ev hk
      | byt t' xs =>
       obtain ⟨g,cap,e1,_⟩:=zR.flat hbox
       rw [e1] at ev
       exact slc (by simpa using e) _ _ _ ev hk
      | var cs=>cases hk
      | dead=>cases hk
   | _=>rw [hx] at hk; cases hk
  ·cases h2
 ·cases h2
def ACT (P:Program) (n:Nat) (o:Oper) (d:Nat) (x i:Cr):Bool :=
 LX o n d&&(match o.op with | .index t x' i'=>Dl x' x&&Dl i' i&&uR P t | _=>false)
theorem AFS {n:Nat} {o:Oper} {d:Nat} {x i:Cr} {cal:Gi} (h:ACT P n o d x i=true):Jx P n o (.sidx d x i) cal:=by
 intro ρ kn r s act w H φ next Q hs hf hn hk hnext
 simp only [ACT,AE] at h
 obtain ⟨h1,h2⟩:=h
 obtain ⟨hd,hdn⟩:=By h1
 split at h2
 ·rename_i t x' i' ho
  simp only [AE] at h2
  obtain ⟨⟨hx,hi⟩,ht⟩:=h2
  have vx:=Bg hf hx
  have vi:=Bg hf hi
  simp only [Ef] at hk
  split at hk
  ·rename_i b k j hxe hie
   rw [hxe] at vx
   rw [hie] at vi
   have vx:act.eval x'=.string b:=vx
   have vi:act.eval i'=.int k j:=vi
   split at hk
   ·rename_i h0
    split at hk
    ·rename_i h1
     refine Bk hs hf hn hd hdn hk (v:=.int .u8 (b[j.toNat]'(by omega)).toNat) ?_ ?_ hnext
     ·intro w2 _
      simp [execOp,ho,vx,vi,run_index_string w2 t b k j (YP ht),h0,h1]
     ·show Value.int .u8 _=.int .u8 _
      congr 2
      have e:b.data.toList.getD j.toNat 0=b[j.toNat]'(by omega):=by
       have hlt:j.toNat<b.data.size:=by have:b.size=b.data.size:=rfl; omega
       simp only [List.getD,Array.getElem?_toList,Array.getElem?_eq_getElem hlt,Option.getD_some]
       rfl
      rw [e]
    ·cases hk
   ·cases hk
  ·cases hk
 ·cases h2
def ACU (P:Program) (n:Nat) (o:Oper) (d m:Nat) (x i:Cr):Bool :=
 LX o n d&&(match o.op with | .index t x' i'=>Dl x' x&&Dl i' i&&(match P.underlying t with | some (.array len e)=>len==m&&(match P.info? e with | some ie=>ie.size==1 | none=>false)&&(match P.underlying e with | some (.int _)=>true | _=>false) | _=>false) | _=>false)
theorem ACV {H:HP} {φ:CQ}:∀ {cs:List AV} {vs:List Value} {xs:List Int} {st:List AX},Az (VC H φ st) cs vs->(Kd.int .i64).ofs (cs.map fun c=>[c])=some xs->vs=xs.map (.int .i64)
 | [],vs,xs,st,h,e=>by cases h; cases e; rfl
 | c::cs,vs,xs,st,⟨v,r,e1,hc,hr⟩,e=>by
  simp only [List.map_cons,Kd.ofs] at e
  cases hd:(Kd.int .i64).dec [c] with
  | none=>rw [hd] at e; cases e
  | some y =>
   obtain ⟨y,rest⟩:=y
   rw [hd,AA] at e
   cases c with
   | int k n =>
    simp only [Kd.dec] at hd
    split at hd
    ·rename_i hk
     subst hk
     cases hd
     simp only at e
     cases h2:(Kd.int .i64).ofs (cs.map fun c=>[c]) with
     | none=>rw [h2] at e; cases e
     | some ys =>
      rw [h2,AA] at e
      cases e
      have:=ACV hr h2
      subst this
      rw [e1]
      have hc:v=.int .i64 _:=hc
      rw [hc]
      rfl
    ·cases hd
   | _=>simp [Kd.dec] at hd
theorem AFT {n:Nat} {o:Oper} {d m:Nat} {x i:Cr} {cal:Gi} (h:ACU P n o d m x i=true):Jx P n o (.aidx d m x i) cal:=by
 intro ρ kn r s act w H φ next Q hs hf hn hk hnext
 simp only [ACU,AE] at h
 obtain ⟨h1,h2⟩:=h
 obtain ⟨hd,hdn⟩:=By h1
 split at h2
 ·rename_i t x' i' ho
  simp only [AE] at h2
  obtain ⟨⟨hx,hi⟩,ht⟩:=h2
  split at ht
  ·rename_i len e hu
   simp only [AE,beq_iff_eq] at ht
   obtain ⟨⟨rfl,hie⟩,hue⟩:=ht
   have hagg:∀ w,(isAgg e).run P w=.ok false w:=fun w=>by
    split at hue
    ·rename_i k hk; simp [isAgg,run_underlying hk]
    ·cases hue
   have hsz:∀ w,(sizeOf e).run P w=.ok 1 w:=fun w=>by
    split at hie
    ·rename_i ie hie2; rw [beq_iff_eq] at hie; simp [sizeOf,typeInfo,hie2,hie]
    ·cases hie
   have vx:=Bg hf hx
   have vi:=Bg hf hi
   simp only [Ef] at hk
   split at hk
   ·rename_i cs k j hxe hie
    rw [hxe] at vx
    rw [hie] at vi
    obtain ⟨arr,ea,hc⟩:=vx
    have vi:act.eval i'=.int k j:=vi
    cases hxs:(Kd.int .i64).ofs (cs.map fun c=>[c]) with
    | none=>rw [hxs] at hk; cases hk
    | some xs =>
     rw [hxs,AA] at hk
     have hl:=ACV hc hxs
     split at hk
     ·rename_i hlen
      split at hk
      ·rename_i h0
       split at hk
       ·rename_i h1
        have hlt:j.toNat<xs.length:=by omega
        have harr:arr[j.toNat]? = some (.int .i64 (xs.getD j.toNat 0)):=by
         rw [<- Array.getElem?_toList,hl,Cd,List.getElem?_eq_getElem hlt]
         simp [List.getD,List.getElem?_eq_getElem hlt]
        refine Bk hs hf hn hd hdn hk (v:=.int .i64 (xs.getD j.toNat 0)) ?_ rfl hnext
        intro w2 _
        simp [execOp,ho,ea,vi,Instr.index,run_underlying hu,asIntOf,h0,h1,Go.part,hagg,hsz,harr]
       ·cases hk
      ·cases hk
     ·cases hk
   ·cases hk
  ·cases ht
 ·cases h2
def AFU (P:Program) (n:Nat) (o:Oper) (d:Nat) (z:Nat) (x i:Cr):Bool :=
 LX o n d&&(match o.op with | .indexAddr t x' i'=>Dl x' x&&Dl i' i&&gz P t&&szB P (P.elem t) z | _=>false)
theorem AGi {n:Nat} {o:Oper} {d:Nat} {z:Nat} {x i:Cr} {cal:Gi} (h:AFU P n o d z x i=true):Jx P n o (.idx d z x i) cal:=by
 intro ρ kn r s act w H φ next Q hs hf hn hk hnext
 simp only [AFU,AE] at h
 obtain ⟨h1,h2⟩:=h
 obtain ⟨hd,hdn⟩:=By h1
 split at h2
 ·rename_i t x' i' ho
  simp only [AE] at h2
  obtain ⟨⟨⟨hx,hi⟩,ht⟩,hz⟩:=h2
  have vx:=Bg hf hx
  have vi:=Bg hf hi
  have hsize:∀ w,(sizeOf (P.elem t)).run P w=.ok z w:=by
   intro w
   have hs:=TX hz
   cases hq:P.info? (P.elem t) with
   | none=>simp [hq] at hs
   | some q =>
    have hs:q.size=z:=by simpa [hq] using hs
    simp [sizeOf,typeInfo,hq,hs]
  have run:∀ b off m cap k (j:Int),act.eval x'=.slice (some ⟨b,off,none⟩) m cap->act.eval i'=.int k j->0<=j->j<m->∀ w2,EN o act w w2 ->
    (execOp act.eval o).run P w2=.ok (.value (.pointer (some ⟨b,off+j.toNat*z,none⟩))) w2:=by
   intro b off m cap k j e1 e2 h0 h1 w _
   simp [execOp,ho,e1,e2,run_indexAt_slice w t _ m cap k j (TY ht),h0,h1,hsize,Addr.add_none]
  simp only [Ef] at hk
  have frozen:∀ (K:Kd) (xs:List K.T) k (j:Int),dN (Gj H K) K.sz H xs (act.eval x')->act.eval i'=.int k j->K.sz=z->0<=j->j<xs.length ->
    ∃ b off cap c el fz,act.eval x'=.slice (some ⟨b,off,none⟩) xs.length cap/\H b=some (.cells c el fz) /\
     ∀ j x,xs[j]? = some x->∃ cs,Gj H K x cs/\cs.length=K.sz/\∀ i u,cs[i]? = some u->c[off+j*K.sz+i]? = some u:=by
   intro K xs k j hr hi hzz h0 h1
   obtain ⟨a,cap,ev,_,hr⟩:=hr
   rcases hr with rfl | ⟨b,off,c,el,fz,ea,hb,hc⟩
   ·simp at h1; omega
   ·subst ea
    exact ⟨b,off,cap,c,el,fz,ev,hb,hc⟩
  split at hk
  ·rename_i K xs k j hxe hie
   rw [hxe] at vx
   rw [hie] at vi
   have vi:act.eval i'=.int k j:=vi
   split at hk
   ·rename_i hzz
    split at hk
    ·rename_i h0
     split at hk
     ·rename_i h1
      obtain ⟨b,off,cap,c,el,fz,e1,e2,e3⟩:=frozen K xs k j vx vi hzz h0 h1
      refine Bk hs hf hn hd hdn hk (run _ _ _ _ _ _ e1 vi h0 h1) ?_ hnext
      have hlt:j.toNat<xs.length:=by omega
      obtain ⟨cs,g1,g2,g3⟩:=e3 j.toNat xs[j.toNat] (by simp)
      have eg:xs.getD j.toNat K.zero=xs[j.toNat]:=by simp [List.getD,hlt]
      rw [eg]
      refine ⟨b,off+j.toNat*z,c,el,fz,by simp,e2,cs,Jz.of_rep g1,fun q u hu=>?_⟩
      rw [<- hzz]
      exact g3 q u hu
     ·cases hk
    ·cases hk
   ·cases hk
  ·rename_i id k j hxe hie
   rw [hxe] at vx
   rw [hie] at vi
   have vi:act.eval i'=.int k j:=vi
   obtain ⟨ev,_⟩:=vx
   split at hk
   ·rename_i t' K xs hb
    split at hk
    ·rename_i hzz
     split at hk
     ·rename_i h0
      split at hk
      ·rename_i h1
       obtain ⟨flat,ho',_⟩:=hs.box id _ hb
       rcases ho'.2 with ⟨e1,e2⟩ | ⟨g,cap,cur,e1,_⟩
       ·have:xs.length=0:=e2
        omega
       ·rw [e1] at ev
        refine Bk hs hf hn hd hdn hk (run _ _ _ _ _ _ ev vi h0 h1) ?_ hnext
        exact ⟨g,xs.length,cap,K,by simp only [AQ,hb],by omega,e1,by simp [hzz]⟩
      ·cases hk
     ·cases hk
    ·cases hk
   ·rename_i K xs hb
    split at hk
    ·rename_i hzz
     split at hk
     ·rename_i h0
      split at hk
      ·rename_i h1
       obtain ⟨hr,ha⟩:=hs.box id _ hb
       rw [<- ev] at hr ha
       obtain ⟨b,off,cap,c,el,fz,e1,e2,e3⟩:=frozen K xs k j hr vi hzz h0 h1
       obtain ⟨hoff,_⟩:=ha _ _ _ e1
       simp only at hoff
       subst hoff
       refine Bk hs hf hn hd hdn hk (run _ _ _ _ _ _ e1 vi h0 h1) ?_ hnext
       exact ⟨b,xs.length,cap,K,by simp only [AQ,hb],by omega,by rw [<- ev]; exact e1,by simp [hzz]⟩
      ·cases hk
     ·cases hk
    ·cases hk
   ·rename_i t' K xs hb
    split at hk
    ·rename_i hzz
     split at hk
     ·rename_i h0
      split at hk
      ·rename_i h1
       obtain ⟨flat,ho',_⟩:=hs.box id _ hb
       rcases ho'.2 with ⟨e1,e2⟩ | ⟨g,cap,cur,e1,_⟩
       ·have:xs.length=0:=e2
        omega
       ·rw [e1] at ev
        refine Bk hs hf hn hd hdn hk (run _ _ _ _ _ _ ev vi h0 h1) ?_ hnext
        exact ⟨g,xs.length,cap,K,by simp only [AQ,hb],by omega,e1,by simp [hzz]⟩
      ·cases hk
     ·cases hk
    ·cases hk
   ·rename_i t' xs hb
    split at hk
    ·rename_i hzz
     split at hk
     ·rename_i h0
      split at hk
      ·rename_i h1
       obtain ⟨g,cap,e1,_⟩:=zR.flat (hs.box id _ hb)
       rw [e1] at ev
       refine Bk hs hf hn hd hdn hk (run _ _ _ _ _ _ ev vi h0 h1) ?_ hnext
       exact ⟨g,xs.length,cap,.int .u8,by simp only [AQ,hb],by omega,e1,by simp [hzz]⟩
      ·cases hk
     ·cases hk
    ·cases hk
   ·cases hk
  ·cases hk
 ·cases h2
theorem uS {w:World} {isSlice:Bool} {len cap:Nat} {lo hi:Option Value} {l h:Int} (hlo:(lo=none/\l=0)\/∃ k,lo=some (.int k l)) (hhi:(hi=none/\h=len)\/∃ k,hi=some (.int k h))
  (h0:0<=l) (h1:l<=h) (h2:h<=cap):(Instr.sliceBounds isSlice len cap lo hi none).run P w=.ok (l.toNat,h.toNat,cap) w:=by
 have eh:(h.toNat:Int)=h:=Int.toNat_of_nonneg (by omega)
 have hh:0<=h:=by omega
 rcases hlo with ⟨rfl,rfl⟩ | ⟨k,rfl⟩<;>rcases hhi with ⟨rfl,rfl⟩ | ⟨k',rfl⟩
 ·simp [Instr.sliceBounds]
 ·simp [Instr.sliceBounds,run_sliceBound,h2,hh]
 ·simp [Instr.sliceBounds,run_sliceBound,h0,h1]
 ·simp [Instr.sliceBounds,run_sliceBound,h0,h1,h2,hh,eh]
def AD4:Option Operand->Option Cr->Bool
 | none,none=>true
 | some x,some y=>Dl x y
 | _,_=>false
theorem zd {H:HP} {φ:CQ} {s:St} {act:Act} {lo:Option Operand} {lo':Option Cr} {l d0:Int} {k k0:IntKind} (hf:HR H φ s.st s.fr act.tmps) (h:AD4 lo lo'=true)
  (hl:(match lo' with | none=>AV.int k0 d0 | some y=>s.opd y)=.int k l):(lo.map act.eval=none/\l=d0)\/∃ k,lo.map act.eval=some (.int k l):=by
 cases lo with
 | none =>
  cases lo' with
  | none=>simp only [AV.int.injEq] at hl; exact .inl ⟨rfl,hl.2.symm⟩
  | some y=>simp [AD4] at h
 | some x =>
  cases lo' with
  | none=>simp [AD4] at h
  | some y =>
   have hv:=Bg hf h
   simp only at hl
   rw [hl] at hv
   have hv:act.eval x=.int k l:=hv
   exact .inr ⟨k,by simp [hv]⟩
def slB (P:Program) (n:Nat) (o:Oper) (d:Nat) (z:Nat) (x:Cr) (lo hi:Option Cr):Bool :=
 LX o n d&&(match o.op with
  | .slice t x' lo' hi' none=>Dl x' x&&AD4 lo' lo&&AD4 hi' hi&&(if z=0 then uR P t else gz P t&&szB P (P.elem t) z)
  | _=>false)
theorem AHP {n:Nat} {o:Oper} {d:Nat} {z:Nat} {x:Cr} {lo hi:Option Cr} {cal:Gi} (h:slB P n o d z x lo hi=true):Jx P n o (.sl d z x lo hi) cal:=by
 intro ρ kn r s act w H φ next Q hs hf hn hk hnext
 simp only [slB,AE] at h
 obtain ⟨h1,h2⟩:=h
 obtain ⟨hd,hdn⟩:=By h1
 split at h2
 ·rename_i t x' lo' hi' ho
  simp only [AE] at h2
  obtain ⟨⟨⟨hx,hlo⟩,hhi⟩,ht⟩:=h2
  have vx:=Bg hf hx
  simp only [Ef] at hk
  split at hk
  ·rename_i b k l hxe hle
   rw [hxe] at vx
   have vx:act.eval x'=.string b:=vx
   split at hk
   ·rename_i hz
    subst hz
    simp only [if_true] at ht
    split at hk
    ·rename_i k2 h hhe
     split at hk
     ·rename_i h0
      split at hk
      ·rename_i h1
       split at hk
       ·rename_i h2
        have hb:=fun w=>uS (P:=P) (w:=w) (isSlice:=false) (zd hf hlo hle) (zd hf hhi hhe) h0 h1 h2
        refine Bk hs hf hn hd hdn hk (v:=.string (b.extract l.toNat h.toNat)) ?_ rfl hnext
        intro w2 _
        simp [execOp,ho,vx,Instr.sliceAt,Instr.slice,run_underlying (YP ht),hb]
       ·cases hk
      ·cases hk
     ·cases hk
    ·cases hk
   ·cases hk
  ·rename_i K xs k l hxe hle
   rw [hxe] at vx
   obtain ⟨a,cap,ev,hcap,hr⟩:=(vx:dN (Gj H K) K.sz H xs (act.eval x'))
   split at hk
   ·rename_i hz
    have hz0:z≠0:=by have:=Kd.sz_pos K; omega
    simp only [if_neg hz0,AE] at ht
    have hsize:∀ w,(sizeOf (P.elem t)).run P w=.ok z w:=by
     intro w
     have hs:=TX ht.2
     cases hq:P.info? (P.elem t) with
     | none=>simp [hq] at hs
     | some q =>
      have hs:q.size=z:=by simpa [hq] using hs
      simp [sizeOf,typeInfo,hq,hs]
    split at hk
    ·rename_i k2 h hhe
     split at hk
     ·rename_i h0
      split at hk
      ·rename_i h1
       split at hk
       ·rename_i h2
        have hb:=fun w=>uS (P:=P) (w:=w) (isSlice:=true) (cap:=cap) (zd hf hlo hle) (zd hf hhi hhe) h0 h1 (by omega)
        refine Bk hs hf hn hd hdn hk (v:=.slice (if cap=l.toNat then a else a.map (·.add (l.toNat*z))) (h.toNat-l.toNat) (cap-l.toNat)) ?_ ?_ hnext
        ·intro w2 _
         simp [execOp,ho,ev,Instr.sliceAt,Instr.slice,run_underlying (TY ht.1),hb,hsize]
        ·have hlen:((xs.take h.toNat).drop l.toNat).length=h.toNat-l.toNat:=by
          rw [List.length_drop,List.length_take]; omega
         refine ⟨_,_,by rw [hlen],by rw [hlen]; omega,?_⟩
         rcases hr with rfl | ⟨b,off,c,el,fz,ea,hbb,hc⟩
         ·left; simp
         ·by_cases he:cap=l.toNat
          ·left
           rw [<- DD,hlen]
           omega
          ·right
           subst ea
           refine ⟨b,off+l.toNat*z,c,el,fz,by simp [he,Addr.add_none],hbb,fun j y hy=>?_⟩
           rw [DC,CA] at hy
           split at hy
           ·obtain ⟨cs,g1,g2,g3⟩:=hc _ y hy
            refine ⟨cs,g1,g2,fun i u hu=>?_⟩
            have:=g3 i u hu
            rw [hz,Nat.add_mul,<- Nat.add_assoc] at this
            rw [hz]
            exact this
           ·cases hy
       ·cases hk
      ·cases hk
     ·cases hk
    ·cases hk
   ·cases hk
  ·cases hk
 ·cases h2

theorem jb {H:HP} {φ:CQ} {s:St} {a:AV} {v:Value} {K:Kd} {ρ:Type} {kn:List K.T->Option ρ} {r:ρ} (hv:VA H φ s.st a v) (h:s.list a K kn=some r):VC H φ s.st a v:=by
 rcases hv.cases with ⟨cs,arr,rfl,_⟩ | ⟨vs,arr,rfl,_⟩ | h
 ·cases h
 ·cases h
 ·exact h
def AGj (P:Program) (n:Nat) (o:Oper) (d:Nat) (x:Cr):Bool :=
 LX o n d&&(match o.op with
  | .convert src dst y=>Dl y x&&gz P src&&uR P dst&&(match P.underlying (P.elem src) with | some (.int .u8)=>true | _=>false)
  | _=>false)
theorem AGk {n:Nat} {o:Oper} {d:Nat} {x:Cr} {cal:Gi} (h:AGj P n o d x=true):Jx P n o (.bts d x) cal:=by
 intro ρ kn r s act w H φ next Q hs hf hn hk hnext
 simp only [AGj,AE] at h
 obtain ⟨h1,h2⟩:=h
 obtain ⟨hd,hdn⟩:=By h1
 split at h2
 ·rename_i src dst y ho
  simp only [AE] at h2
  obtain ⟨⟨⟨h2,h3⟩,h4⟩,h5⟩:=h2
  have he:P.underlying (P.elem src)=some (.int .u8):=by
   split at h5
   ·assumption
   ·cases h5
  simp only [Ef] at hk
  have hv:=Bg hf h2
  obtain ⟨xs,hk',sl,cap,flat,ev,hl,hr,hc,hnone⟩:=zT hs (jb hv hk) hk
  have hl1:flat.length=xs.length:=by rw [hl]; exact Nat.mul_one _
  have hflat:flat=xs.map (Value.int .u8):=by
   apply List.ext_getElem?
   intro j
   rcases CF j xs.length with hj | hj
   ·have:=hr j xs[j] (by simp)
    have e:((flat.drop (j*1)).take 1)=[Value.int .u8 xs[j]]:=this
    rw [Nat.mul_one] at e
    have e2:=congrArg (fun l:List Value=>l[0]?) e
    simp only [CA,DC] at e2
    simpa [hj] using e2
   ·rw [Dn (by omega),Dn (by simp; omega)]
  have hrun:(convert src dst (act.eval y)).run P w=.ok (.string (Dp xs)) w:=by
   rw [ev]
   cases sl with
   | none =>
    have:=hnone rfl
    subst this
    rw [run_convert_bytes_nil w src _ (TY h3) he _ _ dst (YP h4)]
    rfl
   | some a =>
    rw [run_convert_bytes_string w src dst _ (some a) xs.length cap (TY h3) he (YP h4)]
    have hcell:∀ j v,(xs.map (Value.int .u8))[j]? = some v->w.cell? (a.add j)=some v:=by
     rcases hc with h | h | ⟨b,off,h,g⟩
     ·cases h
     ·subst h; intro j v hj; simp at hj
     ·cases h
      intro j v hj
      rw [Addr.add_none]
      exact g j v (by rw [hflat]; exact hj)
    have hload:=run_loadCells_list (P:=P) w a (xs.map (Value.int .u8)) hcell
    simp only [List.length_map] at hload
    rw [run_bytesToString w a xs.length cap xs hload,foldl_push_bytes]
    simp [Dp]
  exact Lq (s1:=s) (Ak.refl hs) hf hn hd hdn hk' (v:=.string (Dp xs)) (by simp [execOp,ho,hrun]) rfl hnext (xf.refl _ _ _ _) rfl
 ·cases h2
theorem AAs {H:HP} {K:Kd} {z:Array Value} {n:Nat} (hz:z.size=K.sz) (hr:Gj H K K.zero z.toList):EE H K (List.replicate n K.zero) (madeCells z (n*K.sz)).toList:=by
 intro j x hx
 have hj:j<n:=by
  have:=(As.1 hx).1
  simpa using this
 have ex:x=K.zero:=by
  rw [List.getElem?_replicate,if_pos hj] at hx
  exact (Option.some.inj hx).symm
 subst ex
 have hpos:=Kd.sz_pos K
 have e:((madeCells z (n*K.sz)).toList.drop (j*K.sz)).take K.sz=z.toList:=by
  apply List.ext_getElem?
  intro i
  rcases CF i K.sz with hi | hi
  ·have hlt:j*K.sz+i<n*K.sz:=by
    have:(j+1)*K.sz<=n*K.sz:=CP _ hj
    rw [Nat.succ_mul] at this
    omega
   have hmod:(j*K.sz+i) % K.sz=i:=by rw [Nat.mul_comm,Nat.mul_add_mod,Nat.mod_eq_of_lt hi]
   rw [CA,if_pos hi,DC]
   simp only [madeCells,Array.toList_map,Cd,Array.toList_range,List.getElem?_range hlt,Option.map_some]
   rw [hz,hmod]
   have hiz:i<z.size:=by omega
   simp [hiz,getElem!_pos]
  ·rw [CA,if_neg (by omega),Dn (by simp; omega)]
 rw [e]
 exact hr
def mkB (P:Program) (n:Nat) (o:Oper) (d:Nat) (e:TypeId) (K:Kd) (m:Cr):Bool :=
 LX o n d&&elB P e K&&(match o.op with | .makeSlice t l c=>Dl l m&&Dl c m&&(match P.underlying t with | some (.slice e')=>e'==e | _=>false) | _=>false)
theorem AHQ {n:Nat} {o:Oper} {d:Nat} {e:TypeId} {K:Kd} {m:Cr} {cal:Gi} (h:mkB P n o d e K m=true):Jx P n o (.mk d e K m) cal:=by
 intro ρ kn r s act w H φ next Q hs hf hn hk hnext
 simp only [mkB,AE] at h
 obtain ⟨⟨h1,hel⟩,h2⟩:=h
 obtain ⟨hd,hdn⟩:=By h1
 split at h2
 ·rename_i t l c ho
  simp only [AE] at h2
  obtain ⟨⟨hl,hc⟩,ht⟩:=h2
  have hu:P.underlying t=some (.slice e):=by
   split at ht
   ·rename_i e' hu
    simp only [beq_iff_eq] at ht
    rw [hu,ht]
   ·cases ht
  obtain ⟨i,z,hi,hz,hsz,hb,hzs,hzr⟩:=YL hel
  simp only [Ef] at hk
  have vl:=Bg hf hl
  have vc:=Bg hf hc
  cases hm:s.opd m with
  | int k q =>
   rw [hm] at hk vl vc
   have vl:act.eval l=.int k q:=vl
   have vc:act.eval c=.int k q:=vc
   simp only at hk
   split at hk
   ·rename_i h0
    split at hk
    ·rename_i hq
     have eq:((q.toNat:Nat):Int)=q:=Int.toNat_of_nonneg h0
     have hqn:q.toNat<=68719476736:=by omega
     have hbytes:i.bytes*q.toNat<=281474976710656:=by
      calc i.bytes*q.toNat<=2048*68719476736:=Nat.mul_le_mul hb hqn
       _<=281474976710656:=by decide
     obtain ⟨w',hrun,hown,hgrow⟩:=run_make_full (P:=P) w w.heap.size t e i z K.sz hu hi hz hsz k k q.toNat hbytes (by simp only [maxLen]; omega) (Nat.le_refl _)
     rw [eq] at hrun
     have hst:=d7 hs hgrow (K:=K) (xs:=List.replicate q.toNat K.zero) (by simpa using hown) (AAs hzs (hzr H))
     refine Lq (s:=s) (s1:=⟨s.fr,s.st++[.rows e K (List.replicate q.toNat K.zero)]⟩) (a:=.row s.st.length) (v:=.slice (some ⟨w.heap.size,0,none⟩) q.toNat q.toNat) hst (hf.mono (HP.le_refl H) (FO φ s.st _ _)) hn hd hdn hk
      (by simp only [execOp,ho,Sem.run_bind,vl,vc,hrun,Result.andThen_ok,Sem.run_pure]) ?_ hnext (xf.grown hs hgrow) rfl
     exact ⟨by simp,by simp [AQ]⟩
    ·cases hk
   ·cases hk
  | _=>rw [hm] at hk; cases hk
 ·cases h2
theorem uT {H:HP} {φ:CQ} {st:List AX} {w:World} {a:AV} {v:Value} (hs:SR H φ st w) (hc:VC H φ st a v) (hf:a.full=true):v.cells=#[v]:=by
 cases a with
 | row id =>
  obtain ⟨e,hk⟩:=hc
  subst e
  cases hb:st[id]? with
  | none=>simp [AQ,hb] at hk
  | some bx =>
   have hbox:=hs.box id bx hb
   cases bx with
   | rows t K xs =>
    obtain ⟨flat,ho,_⟩:=hbox
    rcases ho.2 with ⟨e,_⟩ | ⟨g,cap,cur,e,_⟩<;>rw [e]<;>rfl
   | mrow t K xs =>
    obtain ⟨flat,ho,_⟩:=hbox
    rcases ho.2 with ⟨e,_⟩ | ⟨g,cap,cur,e,_⟩<;>rw [e]<;>rfl
   | frz K xs=>obtain ⟨⟨a,cap,e,_⟩,_⟩:=hbox; rw [e]; rfl
   | byt t xs=>obtain ⟨g,cap,e,_⟩:=zR.flat hbox; rw [e]; rfl
   | var cs=>simp [AQ,hb] at hk
   | dead=>simp [AQ,hb] at hk
 | ptr id off=>obtain ⟨_,b,_,e⟩:=hc; rw [e]; rfl
 | eptr id i off=>obtain ⟨b,_,_,_,_,_,_,e⟩:=hc; rw [e]; rfl
 | fptr cs off=>obtain ⟨b,_,_,_,_,e,_⟩:=hc; rw [e]; rfl
 | fn f caps=>obtain ⟨_,e⟩:=hc; rw [e]; rfl
 | clo f K x=>obtain ⟨b,o,c,el,fz,e,_⟩:=hc; rw [e]; rfl
 | undef=>cases hf
 | void=>cases hf
 | new t K xs=>exact hc.elim
 | ref cs=>exact hc.elim
 | was id=>cases hf
 | self T=>cases hf
 | agg cs=>exact hc.elim
 | tup vs=>exact hc.elim
 | int k n=>exact VF.cells (H:=H) (a:=.int k n) hc
 | bool b=>exact VF.cells (H:=H) (a:=.bool b) hc
 | str b=>exact VF.cells (H:=H) (a:=.str b) hc
 | nil=>exact VF.cells (H:=H) (a:=.nil) hc
 | lst K xs=>exact VF.cells (H:=H) (a:=.lst K xs) hc
theorem uU {H:HP} {φ:CQ} {st:List AX} {w:World} {a:AV} {v:Value} (hs:SR H φ st w) (h:VA H φ st a v) (hf:a.full=true):Az (VC H φ st) a.cells v.cells.toList:=by
 rcases h.cases with ⟨cs,arr,rfl,rfl,hc⟩ | ⟨vs,arr,rfl,_,_⟩ | hc
 ·exact hc
 ·cases hf
 ·rw [YO hc,uT hs hc hf]
  exact ⟨v,[],rfl,hc,rfl⟩
theorem Az.set {α β:Type} {R:α->β->Prop}:∀ {aw:List α} {vs:List β} (n:Nat) {a:α} {v:β},Az R aw vs->R a v->Az R (aw.set n a) (vs.set n v)
 | [],vs,n,a,v,h,_=>by cases h; simp [Az]
 | _::_,_,0,a,v,⟨v0,r,e,_,hr⟩,g=>by subst e; exact ⟨v,r,rfl,g,hr⟩
 | _::_,_,n+1,a,v,⟨v0,r,e,h,hr⟩,g=>by subst e; exact ⟨v0,_,rfl,h,Az.set n hr g⟩
theorem AAt {R:AV->Value->Prop}:∀ {aw:List AV} {vs:List Value} {cs:List AV} {arr:Array Value} (off k:Nat),Az R cs arr.toList->Az R aw vs ->
  Az R (putCells cs (off+k) aw) ((vs.zipIdx k).foldl (fun cs c=>cs.setIfInBounds (off+c.2) c.1) arr).toList
 | [],_,cs,arr,off,k,h,g=>by cases g; simpa [putCells] using h
 | a::aw,_,cs,arr,off,k,h,⟨v,r,e,g,gr⟩=>by
  subst e
  simp only [putCells,List.zipIdx_cons,List.foldl_cons]
  rw [Nat.add_assoc]
  refine AAt off (k+1) ?_ gr
  rw [Array.toList_setIfInBounds]
  exact h.set _ g
def d9 (places:Nat->Option (Nat×Nat)):List (Nat×Operand)->List (Nat×Nat×Cr)->Bool
 | [],[]=>true
 | (i,y)::ps,(off,m,x)::qs=>decide (places i=some (off,m))&&Dl y x&&d9 places ps qs
 | _,_=>false
theorem t8 {H:HP} {φ:CQ} {s:St} {w:World} {act:Act} (hs:SR H φ s.st w) (hf:HR H φ s.st s.fr act.tmps) (places:Nat->Option (Nat×Nat)) :
  ∀ (ps:List (Nat×Operand)) (qs:List (Nat×Nat×Cr)) (cs cs':List AV) (arr:Array Value),d9 places ps qs=true->Az (VC H φ s.st) cs arr.toList->s.filled cs qs=some cs' ->
   ∃ arr',Instr.fill places arr (ps.map fun p=>(p.1,act.eval p.2))=some arr'/\Az (VC H φ s.st) cs' arr'.toList
 | [],[],cs,cs',arr,_,h,e=>by cases e; exact ⟨arr,rfl,h⟩
 | (i,y)::ps,(off,m,x)::qs,cs,cs',arr,hb,h,e=>by
  simp only [d9,AE,decide_eq_true_eq] at hb
  obtain ⟨⟨hp,hy⟩,hb⟩:=hb
  simp only [St.filled] at e
  split at e
  ·rename_i hc
   obtain ⟨hfull,hlen,hle⟩:=hc
   have hv:=uU hs (Bg hf hy) hfull
   have hsz:(act.eval y).cells.size=m:=by have:=hv.length; simpa [hlen] using this
   have hcs:arr.size=cs.length:=by simpa using h.length
   have h2:=AAt off 0 h hv
   rw [Nat.add_zero] at h2
   obtain ⟨arr',h3,h4⟩:=t8 hs hf places ps qs (putCells cs off (s.opd x).cells) cs' (((act.eval y).cells.toList.zipIdx 0).foldl (fun cs c=>cs.setIfInBounds (off+c.2) c.1) arr) hb h2 e
   refine ⟨arr',?_,h4⟩
   simp only [List.map_cons,Instr.fill,hp]
   rw [if_neg (by simp [hsz]; omega)]
   rw [<- h3]
   congr 1
   rw [<- Array.foldl_toList,Array.toList_zipIdx]
  ·cases e
 | [],_::_,_,_,_,hb,_,_=>by simp [d9] at hb
 | _::_,[],_,_,_,hb,_,_=>by simp [d9] at hb
def ze (P:Program) (n:Nat) (o:Oper) (d:Nat) (zero:List AV) (qs:List (Nat×Nat×Cr)):Bool :=
 LX o n d&&(match o.op with
  | .build t ps=>ADx P t zero&&(match P.underlying t with
   | some (.struct fields)=>(match fields.toList.mapM (fun f=>(P.info? f.type).map fun i=>(f.offset,i.size)) with
    | some places=>d9 (places[·]?) ps.toList qs
    | none=>false)
   | some (.array _ e)=>(match P.info? e with
    | some ie=>d9 (fun i=>some (i*ie.size,ie.size)) ps.toList qs
    | none=>false)
   | _=>false)
  | _=>false)
theorem AD5 {n:Nat} {o:Oper} {d:Nat} {zero:List AV} {qs:List (Nat×Nat×Cr)} {cal:Gi} (h:ze P n o d zero qs=true):Jx P n o (.build d zero qs) cal:=by
 intro ρ kn r s act w H φ next Q hs hf hn hk hnext
 simp only [ze,AE] at h
 obtain ⟨h1,h2⟩:=h
 obtain ⟨hd,hdn⟩:=By h1
 split at h2
 ·rename_i t ps ho
  simp only [AE] at h2
  obtain ⟨hz,h2⟩:=h2
  obtain ⟨i,z,hi,hzz,hzc⟩:=ADy hz
  split at h2
  ·rename_i fields hu
   split at h2
   ·rename_i places hpl
    simp only [Ef] at hk
    cases hq:s.filled zero qs with
    | none=>rw [hq] at hk; cases hk
    | some cs =>
     rw [hq] at hk
     simp only [AA] at hk
     obtain ⟨arr,h3,h4⟩:=t8 hs hf (places[·]?) ps.toList qs zero cs z.cells h2 ((JK.1 (hzc H)).imp fun _ _ h=>VC.of_VF h) hq
     have hb:P.built t (ps.map fun p=>(p.1,act.eval p.2)).toList=some arr:=by
      unfold Program.built
      simp only [hi,hu,hzz,hpl]
      rw [Array.toList_map]
      simpa using h3
     refine Bk hs hf hn hd hdn hk (v:=.agg arr) ?_ ⟨arr,rfl,h4⟩ hnext
     intro w2 _
     simp only [execOp,ho,Sem.run_bind,run_build w2 t _ arr hb,Result.andThen_ok,Sem.run_pure]
   ·cases h2
  ·rename_i len e hu
   split at h2
   ·rename_i ie hie
    simp only [Ef] at hk
    cases hq:s.filled zero qs with
    | none=>rw [hq] at hk; cases hk
    | some cs =>
     rw [hq] at hk
     simp only [AA] at hk
     obtain ⟨arr,h3,h4⟩:=t8 hs hf _ ps.toList qs zero cs z.cells h2 ((JK.1 (hzc H)).imp fun _ _ h=>VC.of_VF h) hq
     have hb:P.built t (ps.map fun p=>(p.1,act.eval p.2)).toList=some arr:=by
      unfold Program.built
      simp only [hi,hu,hzz,hie]
      rw [Array.toList_map]
      simpa using h3
     refine Bk hs hf hn hd hdn hk (v:=.agg arr) ?_ ⟨arr,rfl,h4⟩ hnext
     intro w2 _
     simp only [execOp,ho,Sem.run_bind,run_build w2 t _ arr hb,Result.andThen_ok,Sem.run_pure]
   ·cases h2
  ·cases h2
 ·cases h2
theorem VC.of_told {T:TypeId} {H:HP} {φ:CQ} {st:List AX} {a:AV} {u:Value} (h:AAp T H φ st a u) (hz:∀ i,a≠.was i) (hu:a≠.undef):VC H φ st a u:=by
 obtain ⟨h1,h2⟩:=h
 cases a with
 | row i=>exact ⟨(h2 i rfl).2,(h2 i rfl).1⟩
 | was i=>exact absurd rfl (hz i)
 | undef=>exact absurd rfl hu
 | self T=>trivial
 | _=>first | exact VC.of_VF (h1 .nilIface) | exact (h1 .nilIface).elim
def AD6 (P:Program) (n:Nat) (o:Oper) (d:Nat) (zero:List AV) (qs:List (Nat×Nat×Cr)):Bool :=
 LX o n d&&(match o.op with
  | .build t ps=>ACP P t zero&&(match P.underlying t with
   | some (.struct fields)=>(match fields.toList.mapM (fun f=>(P.info? f.type).map fun i=>(f.offset,i.size)) with
    | some places=>d9 (places[·]?) ps.toList qs
    | none=>false)
   | _=>false)
  | _=>false)
theorem AFV {n:Nat} {o:Oper} {d:Nat} {zero:List AV} {qs:List (Nat×Nat×Cr)} {cal:Gi} (h:AD6 P n o d zero qs=true):Jx P n o (.bnew d zero qs) cal:=by
 intro ρ kn r s act w H φ next Q hs hf hn hk hnext
 simp only [AD6,AE] at h
 obtain ⟨h1,h2⟩:=h
 obtain ⟨hd,hdn⟩:=By h1
 split at h2
 ·rename_i t ps ho
  simp only [AE] at h2
  obtain ⟨hz,h2⟩:=h2
  obtain ⟨i,z,hi,hzz,hzc⟩:=l9 hz
  obtain ⟨φ1,g1,k1,told,len⟩:=YM (hzc H) hs
  split at h2
  ·rename_i fields hu
   split at h2
   ·rename_i places hpl
    simp only [Ef] at hk
    cases hq:s.filled (Bl s.st.length zero) qs with
    | none=>rw [hq] at hk; cases hk
    | some cs =>
     rw [hq] at hk
     simp only [AA] at hk
     have hopd:∀ x,(⟨s.fr,s.st++BM zero⟩:St).opd x=s.opd x:=fun x=>by cases x<;>rfl
     have hq':∀ (qs:List (Nat×Nat×Cr)) (cs:List AV),(⟨s.fr,s.st++BM zero⟩:St).filled cs qs=s.filled cs qs:=by
      intro qs
      induction qs with
      | nil=>intro cs; rfl
      | cons q qs ih=>obtain ⟨off,m,x⟩:=q; intro cs; simp only [St.filled,hopd,ih]
     have hf1:HR H φ1 (s.st++BM zero) s.fr act.tmps:=hf.mono (HP.le_refl H) k1
     have htold:∀ (k:Nat) (cs:List AV) (vs:List Value),Az (ZC t H) cs vs->∀ (st:List AX) (φ:CQ),Az (AAp t H φ st) (Bl k cs) vs->Az (VC H φ st) (Bl k cs) vs:=by
      intro k cs
      induction cs generalizing k with
      | nil=>intro vs h st φ g; exact g
      | cons a cs ih =>
       intro vs h st φ g
       obtain ⟨v,r,rfl,ha,hr⟩:=h
       rcases ha with ⟨t,K,rfl,rfl⟩ | ha | ⟨rfl,rfl⟩
       ·obtain ⟨v,r',e,g1,g2⟩:=g
        cases e
        exact ⟨_,_,rfl,VC.of_told g1 (by simp) (by simp),ih (k+1) _ hr st φ g2⟩
       ·obtain ⟨o1,_,_⟩:=uM (k:=k) (r:=cs) ha
        rw [o1] at g ⊢
        obtain ⟨v,r',e,g1,g2⟩:=g
        cases e
        exact ⟨_,_,rfl,VC.of_VF ha,ih k _ hr st φ g2⟩
       ·obtain ⟨v,r',e,g1,g2⟩:=g
        cases e
        exact ⟨_,_,rfl,trivial,ih k _ hr st φ g2⟩
     obtain ⟨arr,h3,h4⟩:=t8 (s:=⟨s.fr,s.st++BM zero⟩) g1.sr hf1 (places[·]?) ps.toList qs (Bl s.st.length zero) cs z.cells h2 (htold _ _ _ (hzc H) _ _ told) (by rw [hq']; exact hq)
     have hb:P.built t (ps.map fun p=>(p.1,act.eval p.2)).toList=some arr:=by
      unfold Program.built
      simp only [hi,hu,hzz,hpl]
      rw [Array.toList_map]
      simpa using h3
     refine Lq (s:=s) (s1:=⟨s.fr,s.st++BM zero⟩) (a:=.agg cs) (v:=.agg arr) g1 hf1 hn hd hdn hk ?_ ⟨arr,rfl,h4⟩ hnext (xf.refl _ _ _ _) rfl
     simp only [execOp,ho,Sem.run_bind,run_build w t _ arr hb,Result.andThen_ok,Sem.run_pure]
   ·cases h2
  ·cases h2
 ·cases h2

theorem I0 {φ:CQ} {w:World}:∀ {aw:List AV} {css:List (List AV)} {s s':St} {H:HP} {vs:List Value},SR H φ s.st w->Az (VA H φ s.st) aw vs->s.keepAlls aw=some (css,s') ->
  ∃ H',Ak H φ s.st w H' φ s'.st w/\CD φ s.st φ s'.st none/\Az (fun cs v=>Jz H' cs v.cells.toList) css vs/\s'.fr=s.fr/\s'.st.length=s.st.length
 | [],css,s,s',H,vs,hs,hv,h=>by
  cases h
  cases hv
  exact ⟨H,Ak.refl hs,CD.refl _ _ _,rfl,rfl,rfl⟩
 | a::aw,css,s,s',H,vs,hs,hv,h=>by
  obtain ⟨v,r,rfl,h1,h2⟩:=hv
  simp only [St.keepAlls] at h
  cases hk:s.keepAll a.cells with
  | none=>rw [hk] at h; cases h
  | some x =>
   obtain ⟨a',s1⟩:=x
   rw [hk] at h
   simp only [AA] at h
   obtain ⟨H1,g1,k1,f1,e1,n1⟩:=NO hs h1 hk
   cases hq:s1.keepAlls aw with
   | none=>rw [hq] at h; cases h
   | some y =>
    obtain ⟨b',s2⟩:=y
    rw [hq] at h
    cases h
    obtain ⟨H2,g2,k2,f2,e2,n2⟩:=I0 g1.sr (h2.imp fun _ _ h=>h.mono g1.le k1) hq
    exact ⟨H2,g1.trans g2,k1.trans k2,⟨v,r,rfl,f1.mono g2.le,f2⟩,e2.trans e1,n2.trans n1⟩
theorem ABp {H:HP} {K:Kd} {x:K.T} {c:List Value} (h:Gj H K x c):EE H K [x] c:=by
 intro j y hy
 have hj:j=0:=by
  have:=(As.1 hy).1
  simpa using this
 subst hj
 simp at hy
 subst hy
 have:=h.length
 rw [Nat.zero_mul,List.drop_zero,List.take_of_length_le (by omega)]
 exact h
theorem o8 {H:HP} (K:Kd):∀ {css:List (List AV)} {vs:List Value} {xs:List K.T},Az (fun cs v=>Jz H cs v.cells.toList) css vs->K.ofs css=some xs ->
  xs.length=vs.length/\EE H K xs (vs.flatMap fun v=>v.cells.toList)/\(∀ v∈vs,v.cells.size=K.sz)
 | [],vs,xs,h,e=>by
  cases h
  cases e
  exact ⟨rfl,fun j x hx=>by simp at hx,fun v hv=>by cases hv⟩
 | cs::css,vs,xs,h,e=>by
  obtain ⟨v,r,rfl,h1,h2⟩:=h
  simp only [Kd.ofs] at e
  cases hd:K.dec cs with
  | none=>rw [hd] at e; cases e
  | some y =>
   obtain ⟨y,rr⟩:=y
   rw [hd] at e
   simp only [AA] at e
   cases rr with
   | cons _ _=>cases e
   | nil =>
    simp only at e
    cases hq:K.ofs css with
    | none=>rw [hq] at e; cases e
    | some ys =>
     rw [hq] at e
     cases e
     obtain ⟨l1,r1,s1⟩:=o8 K h2 hq
     obtain ⟨c1,c2,e1,e2,e3⟩:=IN K h1 hd
     cases e3
     rw [List.append_nil] at e1
     rw [<- e1] at e2
     have hsz:=e2.length
     refine ⟨by simp [l1],?_,?_⟩
     ·have:=Iz (ABp e2) (by simpa using hsz) r1
      simpa using this
     ·intro u hu
      cases hu with
      | head=>simpa using hsz
      | tail _ hm=>exact s1 u hm
def ADF:Nat->List (Nat×Operand)->List Cr->Bool
 | _,[],[]=>true
 | i,(j,y)::ps,x::qs=>i==j&&Dl y x&&ADF (i+1) ps qs
 | _,_,_=>false
theorem AD7 {H:HP} {φ:CQ} {s:St} {act:Act} (hf:HR H φ s.st s.fr act.tmps):∀ (i:Nat) (ps:List (Nat×Operand)) (qs:List Cr),ADF i ps qs=true ->
  ∃ vs:List Value,(ps.map fun p=>(p.1,act.eval p.2))=(vs.zipIdx i).map (fun x=>(x.2,x.1))/\Az (VA H φ s.st) (qs.map s.opd) vs/\vs.length=qs.length
 | _,[],[],_=>⟨[],rfl,rfl,rfl⟩
 | i,(j,y)::ps,x::qs,h=>by
  simp only [ADF,AE,beq_iff_eq] at h
  obtain ⟨⟨rfl,hy⟩,h⟩:=h
  obtain ⟨vs,e1,e2,e3⟩:=AD7 hf (i+1) ps qs h
  exact ⟨act.eval y::vs,by simp [e1],⟨_,_,rfl,Bg hf hy,e2⟩,by simp [e3]⟩
 | _,[],_::_,h=>by simp [ADF] at h
 | _,_::_,[],h=>by simp [ADF] at h
def bsB (P:Program) (n:Nat) (o:Oper) (d:Nat) (K:Kd) (qs:List Cr) (e:TypeId):Bool :=
 LX o n d&&elB P e K&&decide (qs.length*K.sz<=16777216)&&(match o.op with
  | .buildSlice t len ps=>len==qs.length&&ADF 0 ps.toList qs&&(match P.underlying t with | some (.slice e')=>e'==e | _=>false)
  | _=>false)
def re:Op->Nat->Value
 | .alloc _,b=>.pointer (some ⟨b,0,none⟩)
 | .buildSlice _ len _,b=>.slice (some ⟨b,0,none⟩) len len
 | _,_=>undef
theorem uV {H:HP} {φ:CQ} {s:St} {act:Act} {n:Nat} {o:Oper} {d:Nat} {K:Kd} {qs:List Cr} {e:TypeId} (h:bsB P n o d K qs e=true) (hf:HR H φ s.st s.fr act.tmps) :
  o.dst=some d/\d<n/\qs.length*K.sz<=16777216/\∃ vs:List Value,Az (VA H φ s.st) (qs.map s.opd) vs/\vs.length=qs.length/\(∀ b,re o.op b=.slice (some ⟨b,0,none⟩) vs.length vs.length) /\
   ((∀ v∈vs,v.cells.size=K.sz)->∀ w:World,(execOp act.eval o).run P w=.ok (.value (.slice (some ⟨w.heap.size,0,none⟩) vs.length vs.length)) (w.alloc (.cells (vs.flatMap fun v=>v.cells.toList).toArray e))):=by
 simp only [bsB,AE,decide_eq_true_eq] at h
 obtain ⟨⟨⟨h1,hel⟩,hsm⟩,h2⟩:=h
 obtain ⟨hd,hdn⟩:=By h1
 obtain ⟨i,z,hi,hz,hsz,_,hzs,_⟩:=YL hel
 split at h2
 ·rename_i t len ps ho
  simp only [AE,beq_iff_eq] at h2
  obtain ⟨⟨hlen,hps⟩,ht⟩:=h2
  have hu:P.underlying t=some (.slice e):=by
   split at ht
   ·rename_i e' hu
    simp only [beq_iff_eq] at ht
    rw [hu,ht]
   ·cases ht
  obtain ⟨vs,e1,e2,e3⟩:=AD7 (s:=s) hf 0 ps.toList qs hps
  refine ⟨hd,hdn,hsm,vs,e2,e3,fun b=>by rw [ho,e3,<- hlen]; rfl,fun hall w=>?_⟩
  have hparts:(ps.map fun (p:Nat×Operand)=>(p.1,act.eval p.2)).toList=(vs.zipIdx 0).map fun x=>(x.2,x.1):=by rw [Array.toList_map]; exact e1
  have hpos:=Kd.sz_pos K
  have hrun:(Instr.buildSlice t len (ps.map fun p=>(p.1,act.eval p.2))).run P w=.ok (.slice (some ⟨w.heap.size,0,none⟩) vs.length vs.length) (w.alloc (.cells (vs.flatMap fun v=>v.cells.toList).toArray e)):=by
   rw [hlen,<- e3]
   by_cases h0:vs.length=0
   ·have:vs=[]:=DD.1 h0
    subst this
    have hps0:ps.toList=[]:=by simpa using e1
    simp [Instr.buildSlice,run_underlying hu,sizeOf,typeInfo,hi,hps0,Instr.fill,newRow]
    congr 2
    exact Array.eq_empty_of_size_eq_zero (by simp)
   ·have hmul:vs.length*i.size≠0:=by rw [hsz]; exact Nat.mul_ne_zero h0 (by omega)
    refine run_buildSlice w t e vs.length _ _ i z hu hi hz (by rw [hsz,e3]; omega) hmul ?_
    rw [hparts]
    exact Great.fill_whole (by rw [hsz]; exact hpos) vs _ (fun v hv=>by rw [hsz]; exact hall v hv) (by simp)
  simp only [execOp,ho,Sem.run_bind,hrun,Result.andThen_ok,Sem.run_pure]
 ·cases h2
theorem VU {vs:List Value} {k:Nat} (h:∀ v∈vs,v.cells.size=k):(vs.flatMap fun v=>v.cells.toList).length=vs.length*k:=by
 induction vs with
 | nil=>simp
 | cons v vs ih =>
  have h1:v.cells.size=k:=h v (by simp)
  have h2:=ih fun u hu=>h u (by simp [hu])
  rw [List.flatMap_cons,List.length_append,h2,List.length_cons,Nat.succ_mul]
  simp [h1]
  omega
theorem AFW {n:Nat} {o:Oper} {d:Nat} {e:TypeId} {K:Kd} {qs:List Cr} {cal:Gi} (h:bsB P n o d K qs e=true):Jx P n o (.brow d e K qs) cal:=by
 intro ρ kn r s act w H φ next Q hs hf hn hk hnext
 obtain ⟨hd,hdn,hsm,vs,e2,e3,_,hrun⟩:=uV h hf
 simp only [Ef] at hk
 cases hq:s.keepAlls (qs.map s.opd) with
 | none=>rw [hq] at hk; cases hk
 | some z =>
  obtain ⟨css,s1⟩:=z
  rw [hq] at hk
  simp only [AA] at hk
  cases hx:K.ofs css with
  | none=>rw [hx] at hk; cases hk
  | some xs =>
   rw [hx] at hk
   simp only [AA] at hk
   obtain ⟨H1,g1,k1,f1,e1,_⟩:=I0 hs e2 hq
   obtain ⟨l1,r1,s1'⟩:=o8 K f1 hx
   have hflat:=VU s1'
   have hmax:vs.length<=maxLen:=by
    have hpos:=Kd.sz_pos K
    have:qs.length<=qs.length*K.sz:=Nat.le_mul_of_pos_right _ hpos
    simp only [maxLen]
    omega
   have hst:=d7 g1.sr (World.grownBy_alloc w (.cells (vs.flatMap fun v=>v.cells.toList).toArray e) none) (K:=K) (xs:=xs) (v:=.slice (some ⟨w.heap.size,0,none⟩) vs.length vs.length)
    (by rw [l1]; exact World.ownsRow_lit w _ vs.length (Nat.le_refl _) hmax (by simpa using hflat)) r1
   refine Lq (s:=s) (s1:=⟨s1.fr,s1.st++[.rows e K xs]⟩) (a:=.row s1.st.length) (v:=.slice (some ⟨w.heap.size,0,none⟩) vs.length vs.length) (g1.trans hst) ?_ hn hd hdn hk (hrun s1' w) ?_ hnext (xf.grown hs (World.grownBy_alloc w _ none)) rfl
   ·rw [e1]; exact (hf.mono g1.le k1).mono (HP.le_refl _) (FO φ s1.st _ _)
   ·exact ⟨by simp,by simp [AQ]⟩
theorem Ak.lit {H:HP} {φ:CQ} {st:List AX} {w:World} (h:SR H φ st w) (o:Obj):∃ H',Ak H φ st w H' φ st (w.alloc o)/\H' w.heap.size=some o:=by
 have hg:=World.grownBy_alloc w o none
 have hnone:∀ b,w.heap.size<=b->H b=none:=fun b hb=>(h.fresh hb).1
 let H':HP:=fun b=>if b=w.heap.size then some o else H b
 have hle:H.le H':=by
  intro b o' hb
  have:b≠w.heap.size:=fun e=>by rw [hnone b (by omega)] at hb; cases hb
  simp only [H',this,if_false]
  exact hb
 refine ⟨H',⟨hle,⟨fun b o' hb=>?_,fun id bx hid=>?_,h.sep,fun i bi hi hl b hb=>?_,(h.grow hg).cell,h.tb.le hle⟩,fun mv m0 H0 φ0 w0 f=>?_⟩,by simp [H']⟩
 ·by_cases e:b=w.heap.size
  ·subst e
   simp only [H',if_true] at hb
   rw [heap_alloc_new w o]
   exact hb
  ·simp only [H',e,if_false] at hb
   exact (h.grow hg).hp b o' hb
 ·have:=(h.grow hg).box id bx hid
  cases bx with
  | var cs=>obtain ⟨b,c,el,e1,e2,e3⟩:=this; exact ⟨b,c,el,e1,e2,e3.imp fun _ _ h=>h.mono hle⟩
  | rows t' K' xs'=>obtain ⟨flat',o',r'⟩:=this; exact ⟨flat',o',fun j x hx=>(r' j x hx).mono hle⟩
  | mrow t' K' xs'=>obtain ⟨flat',o',r'⟩:=this; exact ⟨flat',o',fun j x hx=>(r' j x hx).mono hle⟩
  | byt t' xs'=>exact this
  | frz K' xs'=>obtain ⟨r',a'⟩:=this; exact ⟨Po (fun _ _ h=>Gj.mono hle h) hle r',a'⟩
  | dead=>trivial
 ·have hlt:=(h.box i bi hi).blk_lt hl hb
  have:b≠w.heap.size:=by omega
  simp only [H',this,if_false]
  exact h.out i bi hi hl b hb
 ·have f2:=(Ak.grow h hg).fr mv m0 H0 φ0 w0 f
  refine { f2 with frz:=fun b hb hn=>?_ }
  have:=f.size
  have:b≠w.heap.size:=by omega
  simp only [H',this,if_false]
  exact f.frz b hb hn
theorem AFX {n:Nat} {o:Oper} {d:Nat} {e:TypeId} {K:Kd} {qs:List Cr} {cal:Gi} (h:bsB P n o d K qs e=true):Jx P n o (.blst d K qs) cal:=by
 intro ρ kn r s act w H φ next Q hs hf hn hk hnext
 obtain ⟨hd,hdn,hsm,vs,e2,e3,_,hrun⟩:=uV h hf
 simp only [Ef] at hk
 cases hq:s.keepAlls (qs.map s.opd) with
 | none=>rw [hq] at hk; cases hk
 | some z =>
  obtain ⟨css,s1⟩:=z
  rw [hq] at hk
  simp only [AA] at hk
  cases hx:K.ofs css with
  | none=>rw [hx] at hk; cases hk
  | some xs =>
   rw [hx] at hk
   simp only [AA] at hk
   obtain ⟨H1,g1,k1,f1,e1,_⟩:=I0 hs e2 hq
   obtain ⟨l1,r1,s1'⟩:=o8 K f1 hx
   have hflat:=VU s1'
   obtain ⟨H2,g2,hb2⟩:=Ak.lit g1.sr (.cells (vs.flatMap fun v=>v.cells.toList).toArray e)
   refine Lq (s:=s) (s1:=s1) (a:=.lst K xs) (v:=.slice (some ⟨w.heap.size,0,none⟩) vs.length vs.length) (g1.trans g2) ?_ hn hd hdn hk (hrun s1' w) ?_ hnext (xf.grown hs (World.grownBy_alloc w _ none)) rfl
   ·rw [e1]; exact (hf.mono g1.le k1).mono g2.le (CD.refl _ _ _)
   ·refine ⟨_,vs.length,by rw [l1],by rw [l1]; exact Nat.le_refl _,.inr ⟨w.heap.size,0,_,e,(0,0),rfl,hb2,fun j x hx=>?_⟩⟩
    obtain ⟨cs,c1,c2,c3⟩:=TW r1 (by rw [hflat,l1]) hx
    refine ⟨cs,c1.mono g2.le,c2,fun i u hu=>?_⟩
    have:=c3 i u hu
    simpa using this
def ADG (P:Program) (n:Nat) (o:Oper) (d:Nat) (e:TypeId) (K:Kd) (a b:Cr):Bool :=
 LX o n d&&elB P e K&&(match o.op with
  | .call ⟨.builtin .append,args,tys⟩=>(match args.toList,tys.toList with
   | [x,y],[t,t']=>Dl x a&&Dl y b&&t==t'&&(match P.underlying t with | some (.slice e')=>e'==e | _=>false)
   | _,_=>false)
  | _=>false)
theorem AGl {n:Nat} {o:Oper} {d:Nat} {e:TypeId} {K:Kd} {a b:Cr} {cal:Gi} (h:ADG P n o d e K a b=true):Jx P n o (.app d e K a b) cal:=by
 intro ρ kn r s act w H φ next Q hs hf hn hk hnext
 simp only [ADG,AE] at h
 obtain ⟨⟨h1,hel⟩,h2⟩:=h
 obtain ⟨hd,hdn⟩:=By h1
 split at h2
 ·rename_i args tys ho
  split at h2
  ·rename_i x y t t' ha ht
   simp only [AE,beq_iff_eq] at h2
   obtain ⟨⟨⟨hx,hy⟩,rfl⟩,hu⟩:=h2
   have hu:P.underlying t=some (.slice e):=by
    split at hu
    ·rename_i e' hu'
     simp only [beq_iff_eq] at hu
     rw [hu',hu]
    ·cases hu
   have ha:args=#[x,y]:=by rw [<- ha]
   have ht:tys=#[t,t]:=by rw [<- ht]
   subst ha ht
   have vx:=Bg hf hx
   have vy:=Bg hf hy
   simp only [Ef] at hk
   split at hk
   ·rename_i id hxa
    rw [hxa] at vx
    obtain ⟨ex,_⟩:=vx
    split at hk
    ·rename_i t0 K0 xs hb
     split at hk
     ·rename_i hK
      subst hK
      split at hk
      ·rename_i ht0
       subst ht0
       obtain ⟨ys,hk',sl,cap2,flat2,ev,hl2,hr2,hc2,hn2⟩:=zT hs (jb vy hk) hk
       split at hk'
       ·rename_i hlim
        obtain ⟨v',w',hrun,hst,hkb,hmem⟩:=rZ (P:=P) (t:=t) (ty:=o.type) hs hb hu hel ev hl2 hr2 hc2 hn2 hlim
        refine Lq (s:=s) (s1:=⟨s.fr.map (Qa [id]),(s.st.map (AX.kill [id])).set id (.rows t0 K0 (xs++ys))⟩) (a:=.row id) (v:=v') hst (hf.kill hkb) hn hd hdn hk' ?_ ?_ hnext ?_ rfl
        ·rw [<- ex] at hrun
         simp only [execOp,ho,resolve,Sem.run_bind,Sem.run_pure,Result.andThen_ok,invoke,builtin,List.map_toArray,List.map_cons,List.map_nil,hrun]
        ·have hlt:id<s.st.length:=(As.1 hb).1
         refine ⟨by simp,?_⟩
         unfold AQ
         rw [BK]
         simp [hlt]
        ·intro i bx hi hl hni b hb'
         simp only [Fw.touch,hxa] at hni
         exact hmem.block b ((hs.box i bx hi).blk_lt hl hb') (fun e=>hs.sep i id bx _ hi hb hl rfl (by simpa using hni) b hb' e.symm)
       ·cases hk'
      ·cases hk
     ·cases hk
    ·cases hk
   ·cases hk
  ·cases h2
 ·cases h2
theorem AGm {n:Nat} {o:Oper} {d:Nat} {e:TypeId} {K:Kd} {a b:Cr} {cal:Gi} (h:ADG P n o d e K a b=true):Jx P n o (.apz d e K a b) cal:=by
 intro ρ kn r s act w H φ next Q hs hf hn hk hnext
 simp only [ADG,AE] at h
 obtain ⟨⟨h1,hel⟩,h2⟩:=h
 obtain ⟨hd,hdn⟩:=By h1
 split at h2
 ·rename_i args tys ho
  split at h2
  ·rename_i x y t t' ha ht
   simp only [AE,beq_iff_eq] at h2
   obtain ⟨⟨⟨hx,hy⟩,rfl⟩,hu⟩:=h2
   have hu:P.underlying t=some (.slice e):=by
    split at hu
    ·rename_i e' hu'
     simp only [beq_iff_eq] at hu
     rw [hu',hu]
    ·cases hu
   have ha:args=#[x,y]:=by rw [<- ha]
   have ht:tys=#[t,t]:=by rw [<- ht]
   subst ha ht
   have vx:=Bg hf hx
   have vy:=Bg hf hy
   simp only [Ef] at hk
   split at hk
   ·rename_i id hxa
    rw [hxa] at vx
    obtain ⟨ex,_⟩:=vx
    split at hk
    ·rename_i t0 K0 xs hb
     split at hk
     ·rename_i hK
      subst hK
      split at hk
      ·rename_i ht0
       subst ht0
       obtain ⟨ys,hk',sl,cap2,flat2,ev,hl2,hr2,hc2,hn2⟩:=zT hs (jb vy hk) hk
       split at hk'
       ·rename_i hlim
        obtain ⟨v',w',hrun,hst,hkb,hmem⟩:=rZ (P:=P) (t:=t) (ty:=o.type) hs hb hu hel ev hl2 hr2 hc2 hn2 hlim
        have hlt:id<s.st.length:=(As.1 hb).1
        have hid1:((s.st.map (AX.kill [id])).set id (.rows t0 K0 (xs++ys)))[id]? = some (.rows t0 K0 (xs++ys)):=by
         rw [BK]
         simp [hlt]
        obtain ⟨H2,hst2,hrep,_⟩:=Ak.freeze hst.sr hid1
        rw [List.set_set] at hst2
        have hkf:=lw (φ:=fun i=>if i=id then v' else φ i) hid1
        rw [List.set_set] at hkf
        refine Lq (s:=s) (s1:=⟨s.fr.map (Qa [id]),(s.st.map (AX.kill [id])).set id (.frz K0 (xs++ys))⟩) (a:=.lst K0 (xs++ys)) (v:=v') (hst.trans hst2) (HR.mono hst2.le hkf (hf.kill hkb)) hn hd hdn hk' ?_ ?_ hnext ?_ rfl
        ·rw [<- ex] at hrun
         simp only [execOp,ho,resolve,Sem.run_bind,Sem.run_pure,Result.andThen_ok,invoke,builtin,List.map_toArray,List.map_cons,List.map_nil,hrun]
        ·have h7:=hrep
         simp only [if_true] at h7
         exact h7
        ·intro i bx hi hl hni b hb'
         simp only [Fw.touch,hxa] at hni
         exact hmem.block b ((hs.box i bx hi).blk_lt hl hb') (fun e=>hs.sep i id bx _ hi hb hl rfl (by simpa using hni) b hb' e.symm)
       ·cases hk'
      ·cases hk
     ·cases hk
    ·cases hk
   ·cases hk
  ·cases h2
 ·cases h2
end Go.Proofs.YtfcgblnlopemkaaGreatDoor.Core

namespace Go.Proofs.YtfcgblnlopemkaaGreatDoor.Core
open Go
theorem d_ (K:Kd) (x:K.T):(K.av x).cells=K.enc x:=by cases K<;>rfl
def AV.nilFree:AV->Bool
 | .nil=>false
 | .ref cs=>cs.all fun c=>c.solid&&(match c with | .nil=>false | _=>true)
 | _=>true
theorem t_:∀ (K:Kd) (cs r:List AV) (x:K.T),cs.all AV.nilFree=true->K.dec cs=some (x,r)->cs=K.enc x++r:=by
 intro K
 induction K with
 | int k =>
  intro cs r x hn h
  cases cs with
  | nil=>simp [Kd.dec] at h
  | cons a cs =>
   cases a<;>simp [Kd.dec] at h
   obtain ⟨rfl,rfl,rfl⟩:=h
   rfl
 | bool =>
  intro cs r x hn h
  cases cs with
  | nil=>simp [Kd.dec] at h
  | cons a cs =>
   cases a<;>simp [Kd.dec] at h
   obtain ⟨rfl,rfl⟩:=h
   rfl
 | str =>
  intro cs r x hn h
  cases cs with
  | nil=>simp [Kd.dec] at h
  | cons a cs =>
   cases a<;>simp [Kd.dec] at h
   obtain ⟨rfl,rfl⟩:=h
   rfl
 | slice e ih =>
  intro cs r x hn h
  cases cs with
  | nil=>simp [Kd.dec] at h
  | cons a cs =>
   cases a with
   | nil=>simp [AV.nilFree] at hn
   | lst K xs =>
    simp only [Kd.dec] at h
    split at h
    ·rename_i hk
     subst hk
     cases h
     rfl
    ·cases h
   | _=>simp [Kd.dec] at h
 | pair a b iha ihb =>
  intro cs r x hn h
  simp only [Kd.dec] at h
  cases h1:a.dec cs with
  | none=>simp [h1] at h
  | some p =>
   simp only [h1,AA] at h
   cases h2:b.dec p.2 with
   | none=>simp [h2] at h
   | some q =>
    simp only [h2,AA,BT,Prod.mk.injEq] at h
    obtain ⟨rfl,rfl⟩:=h
    have e1:=iha cs p.2 p.1 hn h1
    have hn2:p.2.all AV.nilFree=true:=by
     rw [e1,List.all_append,AE] at hn
     exact hn.2
    have e2:=ihb p.2 q.2 q.1 hn2 h2
    simp only [Kd.enc,Bf]
    rw [<- e2]
    exact e1
 | own t e ih =>
  intro cs r x hn h
  cases cs with
  | nil=>simp [Kd.dec] at h
  | cons a cs =>
   cases a with
   | new t' e' xs =>
    simp only [Kd.dec] at h
    split at h
    ·rename_i ht
     split at h
     ·rename_i hk
      subst ht hk
      cases h
      rfl
     ·cases h
    ·cases h
   | _=>simp [Kd.dec] at h
 | ref K ih =>
  intro cs r x hn h
  cases cs with
  | nil=>simp [Kd.dec] at h
  | cons a cs =>
   cases a with
   | ref cs' =>
    simp only [Kd.dec] at h
    cases h1:K.dec cs' with
    | none=>rw [h1] at h; cases h
    | some p =>
     rw [h1] at h
     simp only [AA] at h
     split at h
     ·rename_i hp
      cases h
      simp only [List.all_cons,AE,AV.nilFree] at hn
      have:=ih cs' [] p.1 (Bp.2 fun c hc=>by
       have:=Bp.1 hn.1 c hc
       simp only [AE] at this
       cases c<;>first | rfl | exact this.2 | cases this.1) (by rw [h1]; cases p; simp_all)
      rw [List.append_nil] at this
      rw [this]
      rfl
     ·cases h
   | _=>simp [Kd.dec] at h
 | «fun» f =>
  intro cs r x hn h
  cases cs with
  | nil=>simp [Kd.dec] at h
  | cons a cs =>
   cases a with
   | fn f' caps =>
    cases caps with
    | nil =>
     simp only [Kd.dec] at h
     split at h
     ·rename_i e
      subst e
      cases h
      rfl
     ·cases h
    | cons _ _=>simp [Kd.dec] at h
   | _=>simp [Kd.dec] at h
 | clo f K ih =>
  intro cs r x hn h
  cases cs with
  | nil=>simp [Kd.dec] at h
  | cons a cs =>
   cases a with
   | clo f' K' y =>
    simp only [Kd.dec] at h
    split at h
    ·rename_i e
     subst e
     split at h
     ·rename_i hk
      subst hk
      cases h
      rfl
     ·cases h
    ·cases h
   | _=>simp [Kd.dec] at h
def Kd.news:Kd->Nat
 | .pair a b=>a.news+b.news
 | .own _ _=>1
 | .ref _=>1
 | _=>0
theorem CK:∀ (a b:List AV),AT (a++b)=AT a+AT b
 | [],b=>by simp [AT]
 | x::a,b=>by simp only [List.cons_append,AT,CK a b]; split<;>omega
theorem aP:∀ (K:Kd) (x:K.T),AT (K.enc x)=K.news
 | .int _,_=>rfl
 | .bool,_=>rfl
 | .str,_=>rfl
 | .slice _,_=>rfl
 | .pair a b,x=>by simp [Kd.enc,CK,aP a,aP b,Kd.news]
 | .own _ _,_=>rfl
 | .ref _,_=>rfl
 | .fun _,_=>rfl
 | .clo _ _,_=>rfl
theorem EZ:∀ cs:List AV,(BM cs).length=AT cs
 | []=>rfl
 | a::r=>by
  have:=EZ r
  cases a<;>simp [BM,AT,AV.isNew,this]
theorem CW:∀ (a b:List AV),BM (a++b)=BM a++BM b
 | [],b=>rfl
 | x::a,b=>by
  have:=CW a b
  cases x<;>simp [BM,this]
theorem KW:∀ (cs:List AV) (k:Nat),(Bl k cs).length=cs.length
 | [],_=>rfl
 | a::r,k=>by
  cases a<;>simp [Bl,KW r]
theorem aQ:∀ (a b:List AV) (k:Nat),Bl k (a++b)=Bl k a++Bl (k+AT a) b
 | [],b,k=>by simp [Bl,AT]
 | x::a,b,k=>by
  cases x<;>simp [Bl,AT,AV.isNew,aQ a b,Nat.add_assoc,Nat.add_comm 1]
def cellsOf (vs:List AV):List AV:=vs.flatMap AV.cells
theorem rf:∀ vs:List AV,lg vs=BM (cellsOf vs)
 | []=>rfl
 | v::r=>by simp [lg,cellsOf,CW,rf r]
def Bs (vs:List AV):List AV:=vs.flatMap AV.cellsO
theorem aR:∀ vs:List AV,YH vs=BM (Bs vs)
 | []=>rfl
 | v::r=>by simp [YH,Bs,CW,aR r]
theorem NQ:∀ (vs:List AV) (k j:Nat) (v:AV),vs[j]? = some v->(Qb k vs)[j]? = some (AAi (k+AT (Bs (vs.take j))) v)
 | [],k,j,v,h=>by simp at h
 | u::r,k,0,v,h=>by simp at h; subst h; simp [Qb,Bs,AT]
 | u::r,k,j+1,v,h=>by
  simp only [Qb,List.getElem?_cons_succ]
  rw [NQ r _ j v (by simpa using h)]
  simp [Bs,CK,Nat.add_assoc]
theorem Bm:∀ (vs:List AV) (k:Nat),(Qb k vs).length=vs.length
 | [],_=>rfl
 | v::r,k=>by simp [Qb,Bm r]
theorem KX (outs vs:List AV):Bo outs vs=Qb outs.length outs++BM (Bs outs++cellsOf vs):=by
 simp [Bo,rf,aR,CW]
theorem o9 (outs:List AV):Fx outs=outs.length+AT (Bs outs):=by simp [Fx,aR,EZ]
theorem Xz (outs vs:List AV):(Bo outs vs).length=outs.length+AT (Bs outs)+AT (cellsOf vs):=by
 simp [KX,Bm,EZ,CK,Nat.add_assoc]
theorem uW {K:Kd} (h:K.isOwn=true):∃ t e,K=.own t e:=by cases K<;>first | exact ⟨_,_,rfl⟩ | cases h
theorem KY {K:Kd} (x:K.T) (h:K.isOwn=false):(K.av x).cellsO=K.enc x/\∀ k,AAi k (K.av x)=.var (Bl k (K.enc x)):=by
 cases K<;>first | exact ⟨rfl,fun _=>rfl⟩ | cases h
theorem uX {t:TypeId} {e:Kd} (x:(Kd.own t e).T):((Kd.own t e).av x).cellsO=[]/\∀ k,AAi k ((Kd.own t e).av x)=.mrow t e x:=⟨rfl,fun _=>rfl⟩
theorem EO {l:List Nat} {i:Nat}:CB l i=true↔i∈l:=by
 induction l with
 | nil=>simp [CB]
 | cons a r ih =>
  simp only [CB]
  split
  ·rename_i e; subst e; simp
  ·rename_i e; rw [ih]; simp [Ne.symm e]
theorem B7 {l:List Nat} {i:Nat}:CB l i=false↔i∉l:=by
 rw [<- EO]; simp
theorem yj:∀ {l:List Nat},zP l=true->l.Nodup
 | [],_=>List.nodup_nil
 | a::r,h=>by
  simp only [zP,AE,EY] at h
  exact List.nodup_cons.2 ⟨B7.1 h.1,yj h.2⟩
theorem yk:∀ {a b:List Nat},zQ a b=true->∀ i∈a,i∉b
 | [],b,_,i,hi=>by cases hi
 | x::a,b,h,i,hi=>by
  simp only [zQ,AE,EY] at h
  rcases BF.1 hi with rfl | hi
  ·exact B7.1 h.1
  ·exact yk h.2 i hi
theorem rg {st:List AX}:∀ {l:List Nat},lh st l=true->∀ i∈l,∃ (t:TypeId) (K:Kd),∃ xs:List (Kd.T K),st[i]? = some (AX.rows t K xs)
 | [],_,i,hi=>by cases hi
 | x::l,h,i,hi=>by
  simp only [lh,AE] at h
  rcases BF.1 hi with rfl | hi
  ·have:=h.1
   split at this
   ·rename_i t K xs e; exact ⟨t,K,xs,e⟩
   ·cases this
  ·exact rg h.2 i hi
theorem YQ:∀ {l:List Nat} {i k:Nat},Xy l i=some k->l[k]? = some i
 | [],i,k,h=>by simp [Xy] at h
 | a::r,i,k,h=>by
  simp only [Xy] at h
  split at h
  ·rename_i e; cases h; simp [e]
  ·cases hq:Xy r i with
   | none=>rw [hq] at h; cases h
   | some q=>rw [hq] at h; cases h; simpa using YQ hq
theorem yl:∀ {l:List Nat} {i:Nat},Xy l i=none->i∉l
 | [],i,h=>by simp
 | a::r,i,h=>by
  simp only [Xy] at h
  split at h
  ·cases h
  ·rename_i e
   cases hq:Xy r i with
   | none=>have:=yl hq; simp [Ne.symm e,this]
   | some q=>rw [hq] at h; cases h
theorem ACW {l:List Nat} (hd:l.Nodup) {i k:Nat} (h:l[k]? = some i):Xy l i=some k:=by
 cases hq:Xy l i with
 | none=>exact absurd (List.mem_of_getElem? h) (yl hq)
 | some q =>
  have h2:=YQ hq
  have hk:=(As.1 h).1
  have:=(List.getElem?_inj hk hd).1 (h.trans h2.symm)
  rw [this]
theorem Qe {back gone:List Nat} {nv n:Nat} {est:List AX}:∀ (st:List AX) (i0 i:Nat),(VQ back gone nv n est i0 st)[i]? = (st[i]?).map fun b =>
  if CB gone (i0+i)=true then .dead else match Xy back (i0+i) with
   | some k=>(uI b (est.getD k .dead)).ren (NF back n)
   | none=>b.kill (back.drop nv++gone)
 | [],i0,i=>by simp [VQ]
 | b::st,i0,0=>by simp only [VQ,List.getElem?_cons_zero,Option.map_some,Nat.add_zero]<;>rfl
 | b::st,i0,i+1=>by
  simp only [VQ,List.getElem?_cons_succ]
  rw [Qe st (i0+1) i]
  rw [show i0+1+i=i0+(i+1) by omega]
theorem eA {back gone:List Nat} {nv n:Nat} {est:List AX}:∀ (st:List AX) (i0:Nat),(VQ back gone nv n est i0 st).length=st.length
 | [],_=>rfl
 | b::st,i0=>by simp [VQ,eA st]
structure AFY (st:List AX) (nv:Nat) (back gone:List Nat) (est st2:List AX):Prop where
 ofCallee:∀ (k:Nat) (b:AX),est[k]? = some b->∃ b',st2[NF back st.length k]? = some (b'.ren (NF back st.length))/\(b'=b\/∃ (t:TypeId) (K:Kd),∃ xs:List (Kd.T K),k<back.length/\b=.mrow t K xs/\b'=.rows t K xs/\∃ (i:Nat) (t':TypeId) (K':Kd),∃ xs':List (Kd.T K'),back[k]? = some i/\st[i]? = some (AX.rows t' K' xs'))
 ret:∀ (k i:Nat) (b b0:AX),est[k]? = some b->back[k]? = some i->st[i]? = some b0->st2[i]? = some ((uI b0 b).ren (NF back st.length))
 other:∀ (i:Nat) (b:AX),i∉back->i∉gone->st[i]? = some b->st2[i]? = some (b.kill (back.drop nv++gone))
 dead:∀ i:Nat,i∈gone->i<st.length->st2[i]? = some .dead
 cases:∀ (i:Nat) (b:AX),st2[i]? = some b->(∃ k,k<est.length/\i=NF back st.length k)\/(i<st.length/\i∉back/\i∉gone)\/(i∈gone/\b=.dead)
theorem AD8 {st:List AX} {nv:Nat} {back gone:List Nat} {est:List AX} (hd:back.Nodup) (hg:∀ i∈back,i∉gone) (hb:∀ i∈back,i<st.length) (hl:back.length<=est.length) :
  AFY st nv back gone est (R2 st nv back gone est):=by
 have hlen:=eA (back:=back) (gone:=gone) (nv:=nv) (n:=st.length) (est:=est) st 0
 have hback:∀ (k i:Nat) (b b0:AX),est[k]? = some b->back[k]? = some i->st[i]? = some b0->(R2 st nv back gone est)[i]? = some ((uI b0 b).ren (NF back st.length)):=by
  intro k i b b0 hk hbk hi
  have hlt:=(As.1 hi).1
  unfold R2
  rw [BO (by omega),Qe,hi,Option.map_some,Nat.zero_add]
  have h1:CB gone i=false:=B7.2 (hg _ (List.mem_of_getElem? hbk))
  have h2:Xy back i=some k:=ACW hd hbk
  simp only [h1,Bool.false_eq_true,if_false,h2]
  simp [List.getD,hk]
 refine ⟨fun k b hk=>?_,hback,fun i b h1 h2 hi=>?_,fun i h1 hi=>?_,fun i b hi=>?_⟩
 ·by_cases hkm:k<back.length
  ·have e:back.getD k 0=back[k]:=by simp [List.getD,hkm]
   have hlt:=hb back[k] (by simp)
   have hren:NF back st.length k=back[k]:=by unfold NF; rw [if_pos hkm,e]
   rw [hren]
   refine ⟨_,hback k back[k] b st[back[k]] hk (by simp) (by simp),?_⟩
   have hst:st[back[k]]? = some st[back[k]]:=by simp
   generalize st[back[k]]=b0 at hst ⊢
   cases b0 with
   | rows t' K' xs' =>
    cases b with
    | mrow t K xs=>exact .inr ⟨t,K,xs,hkm,rfl,rfl,back[k],t',K',xs',by simp,hst⟩
    | _=>exact .inl rfl
   | _=>exact .inl rfl
  ·refine ⟨b,?_,.inl rfl⟩
   unfold R2 NF
   rw [if_neg hkm,Cs (by omega),hlen,Cd,DC]
   rw [show back.length+(st.length+(k-back.length)-st.length)=k by omega,hk]
   rfl
 ·have hlt:=(As.1 hi).1
  unfold R2
  rw [BO (by omega),Qe,hi,Option.map_some,Nat.zero_add,B7.2 h2]
  have:Xy back i=none:=by
   cases hq:Xy back i with
   | none=>rfl
   | some q=>exact absurd (List.mem_of_getElem? (YQ hq)) h1
  simp [this]
 ·unfold R2
  rw [BO (by omega),Qe,List.getElem?_eq_getElem hi,Option.map_some,Nat.zero_add,EO.2 h1]
  rfl
 ·have hlt:=(As.1 hi).1
  have htot:(R2 st nv back gone est).length=st.length+(est.length-back.length):=by simp [R2,hlen]
  rcases CF i st.length with h | h
  ·by_cases h1:i∈gone
   ·right; right
    refine ⟨h1,?_⟩
    unfold R2 at hi
    rw [BO (by omega),Qe,List.getElem?_eq_getElem h,Option.map_some,Nat.zero_add,EO.2 h1] at hi
    simpa using hi.symm
   ·by_cases h2:i∈back
    ·left
     obtain ⟨k,hk,rfl⟩:=EX h2
     exact ⟨k,by omega,by simp [NF,hk,List.getD]⟩
    ·exact .inr (.inl ⟨h,h2,h1⟩)
  ·left
   refine ⟨back.length+(i-st.length),by omega,?_⟩
   unfold NF
   rw [if_neg (by omega)]
   omega
theorem AD9 {st:List AX} {back:List Nat} (hd:back.Nodup) (hb:∀ i∈back,i<st.length) {k k':Nat} (h:NF back st.length k=NF back st.length k'):k=k':=by
 unfold NF at h
 by_cases h1:k<back.length<;>by_cases h2:k'<back.length
 ·rw [if_pos h1,if_pos h2] at h
  have e1:back.getD k 0=back[k]:=by simp [List.getD,h1]
  have e2:back.getD k' 0=back[k']:=by simp [List.getD,h2]
  rw [e1,e2] at h
  exact (List.getElem?_inj h1 hd).1 (by simp [h1,h2,h])
 ·rw [if_pos h1,if_neg h2] at h
  have e1:back.getD k 0=back[k]:=by simp [List.getD,h1]
  have:=hb back[k] (by simp)
  omega
 ·rw [if_neg h1,if_pos h2] at h
  have e1:back.getD k' 0=back[k']:=by simp [List.getD,h2]
  have:=hb back[k'] (by simp)
  omega
 ·rw [if_neg h1,if_neg h2] at h
  omega
structure Fz (st:List AX) (cs cl:List AV) (ids:List Nat):Prop where
 len:cl.length=cs.length
 cnt:AT cl=ids.length
 nf:cl.all AV.nilFree=true
 nr:∀ c∈cl,∀ i,c≠.row i
 boxes:∀ (m:Nat) (b:AX),(BM cl)[m]? = some b->∃ (i:Nat) (t:TypeId) (e:Kd),∃ xs:List (Kd.T e),ids[m]? = some i/\st[i]? = some (AX.rows t e xs)/\b=AX.rows t e xs
 cells:∀ (k o:Nat) (a:AV),(Bl k cl)[o]? = some a->∃ c,cs[o]? = some c/\((∃ m i:Nat,a=AV.row (k+m)/\ids[m]? = some i/\c=AV.row i)\/(a.solid=true/\c.solid=true/\∀ (H:HP) (u:Value),VF H c u->VF H a u)\/(∃ (i:Nat) (e:Kd),∃ xs:List (Kd.T e),a=AV.lst e xs/\c=AV.row i/\st[i]? = some (AX.frz e xs)))
theorem Fz.plain {st:List AX} {cs cl:List AV} {ids:List Nat} {a v:AV} (hc:Fz st cs cl ids) (hn:a.nilFree=true) (hs:a.solid=true) (hvs:v.solid=true) (hv:∀ H u,VF H v u->VF H a u) :
  Fz st (v::cs) (a::cl) ids:=by
 have o1:∀ k,Bl k (a::cl)=a::Bl k cl:=fun k=>by cases a<;>first | rfl | cases hs
 have o2:BM (a::cl)=BM cl:=by cases a<;>first | rfl | cases hs
 have o3:AT (a::cl)=AT cl:=by cases a<;>first | rfl | cases hs
 refine ⟨by simp [hc.len],by rw [o3]; exact hc.cnt,by simp [hn,hc.nf],fun c hm i=>?_,fun m b hb=>by rw [o2] at hb; exact hc.boxes m b hb,fun k o b hb=>?_⟩
 ·rcases BF.1 hm with rfl | hm
  ·intro e; subst e; cases hs
  ·exact hc.nr c hm i
 ·rw [o1] at hb
  cases o with
  | zero =>
   simp at hb
   subst hb
   exact ⟨v,rfl,.inr (.inl ⟨hs,hvs,hv⟩)⟩
  | succ o=>simpa using hc.cells k o b (by simpa using hb)
theorem mE {k:Kd} {v a:AV} (h:v.norm k=some a):a.nilFree=true/\a.solid=true/\v.solid=true/\∀ H u,VF H v u->VF H a u:=by
 unfold AV.norm at h
 split at h
 ·split at h
  ·cases h
   exact ⟨rfl,rfl,rfl,fun H u hu=>by simp only [VF] at hu ⊢; subst hu; exact YI⟩
  ·cases h
 ·rename_i hnn
  split at h
  ·rename_i hs
   cases h
   refine ⟨?_,hs,hs,fun _ _ h=>h⟩
   cases v<;>first | exact absurd rfl hnn | rfl | cases hs
  ·cases h
theorem Fz.row {st:List AX} {cs cl:List AV} {ids:List Nat} {i:Nat} {t:TypeId} {e:Kd} {xs:List e.T} (hc:Fz st cs cl ids) (hi:st[i]? = some (.rows t e xs)) :
  Fz st (.row i::cs) (.new t e xs::cl) (i::ids):=by
 refine ⟨by simp [hc.len],by simp [AT,AV.isNew,hc.cnt],by simp [AV.nilFree,hc.nf],fun c hm j=>?_,fun m b hb=>?_,fun k o a ha=>?_⟩
 ·rcases BF.1 hm with rfl | hm
  ·simp
  ·exact hc.nr c hm j
 ·simp only [BM] at hb
  cases m with
  | zero=>simp at hb; subst hb; exact ⟨i,t,e,xs,rfl,hi,rfl⟩
  | succ m=>simpa using hc.boxes m b (by simpa using hb)
 ·simp only [Bl] at ha
  cases o with
  | zero=>simp at ha; subst ha; exact ⟨.row i,rfl,.inl ⟨0,i,rfl,rfl,rfl⟩⟩
  | succ o =>
   obtain ⟨c,c1,c2⟩:=hc.cells (k+1) o a (by simpa using ha)
   refine ⟨c,by simpa using c1,?_⟩
   rcases c2 with ⟨m,j,e1,e2,e3⟩ | c2
   ·exact .inl ⟨m+1,j,by rw [e1]; congr 1; omega,by simpa using e2,e3⟩
   ·exact .inr c2
theorem Fz.frozen {st:List AX} {cs cl:List AV} {ids:List Nat} {i:Nat} {e:Kd} {xs:List e.T} (hc:Fz st cs cl ids) (hi:st[i]? = some (.frz e xs)) :
  Fz st (.row i::cs) (.lst e xs::cl) ids:=by
 refine ⟨by simp [hc.len],by simpa [AT,AV.isNew] using hc.cnt,by simp [AV.nilFree,hc.nf],fun c hm j=>?_,fun m b hb=>hc.boxes m b (by simpa [BM] using hb),fun k o a ha=>?_⟩
 ·rcases BF.1 hm with rfl | hm
  ·simp
  ·exact hc.nr c hm j
 ·simp only [Bl] at ha
  cases o with
  | zero=>simp at ha; subst ha; exact ⟨.row i,rfl,.inr (.inr ⟨i,e,xs,rfl,rfl,hi⟩)⟩
  | succ o=>simpa using hc.cells k o a (by simpa using ha)
theorem YR {st:List AX}:∀ {ks:List Kd} {cs cl:List AV} {ids:List Nat},Kz st ks cs=some (cl,ids)->Fz st cs cl ids
 | [],[],cl,ids,h=>by
  cases h
  exact ⟨rfl,rfl,rfl,by simp,fun m b h=>by simp [BM] at h,fun k o a h=>by simp [Bl] at h⟩
 | [],_::_,cl,ids,h=>by simp [Kz] at h
 | _::_,[],cl,ids,h=>by simp [Kz] at h
 | k0::ks,v::vs,cl,ids,h=>by
  have norm:((v.norm k0).bind fun a=>(Kz st ks vs).bind fun y=>some (a::y.1,y.2))=some (cl,ids)->Fz st (v::vs) cl ids:=by
   intro h
   cases hq:v.norm k0 with
   | none=>rw [hq] at h; cases h
   | some a =>
    rw [hq] at h
    simp only [AA] at h
    cases hc:Kz st ks vs with
    | none=>rw [hc] at h; cases h
    | some y =>
     rw [hc] at h
     cases h
     obtain ⟨n1,n2,n3,n4⟩:=mE hq
     exact (YR hc).plain n1 n2 n3 n4
  cases v with
  | row i =>
   simp only [Kz] at h
   split at h
   ·split at h
    ·rename_i t e xs hi
     cases hc:Kz st ks vs with
     | none=>rw [hc] at h; cases h
     | some y =>
      rw [hc] at h
      cases h
      exact (YR hc).row hi
    ·cases h
   ·split at h
    ·rename_i e xs hi
     split at h
     ·cases hc:Kz st ks vs with
      | none=>rw [hc] at h; cases h
      | some y =>
       rw [hc] at h
       cases h
       exact (YR hc).frozen hi
     ·cases h
    ·cases h
   ·cases h
  | _=>exact norm h
end Go.Proofs.YtfcgblnlopemkaaGreatDoor.Core
