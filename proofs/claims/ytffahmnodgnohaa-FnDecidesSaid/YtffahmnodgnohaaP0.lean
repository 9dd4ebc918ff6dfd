/- Texts of the proof, packed: part 1. -/
import Derived.Calls
import Derived.Tactics
import Derived.Laws.AppendOwn
import Derived.Below
import Derived.Deep.MidRow
import Derived.Laws.IdiomCopy
import Derived.Laws.AppendOwnNone
import Derived.Laws.OwnMore
import Derived.Great.BuildSlice
set_option linter.unusedVariables false
set_option linter.unusedSimpArgs false
namespace Go.Proofs.Ytffahmnodgnohaa.Core
open Go
abbrev AA:ByteArray:=ByteArray.empty
theorem AD:type_of%@Bool.and_eq_true:=@Bool.and_eq_true
theorem AT:type_of%@List.getElem?_eq_some_iff:=@List.getElem?_eq_some_iff
theorem AZ:type_of%@List.getElem?_append_left:=@List.getElem?_append_left
theorem BG:type_of%@List.getElem?_append_right:=@List.getElem?_append_right
theorem CH:type_of%@Int.toNat_natCast:=@Int.toNat_natCast
theorem Am:type_of%@List.mem_append:=@List.mem_append
theorem Af:type_of%@Option.some.injEq:=@Option.some.injEq
theorem AU:type_of%@List.getElem?_set:=@List.getElem?_set
theorem BB:type_of%@List.getElem?_take:=@List.getElem?_take
theorem BT:type_of%@List.getElem?_map:=@List.getElem?_map
theorem Ba:type_of%@List.getElem?_drop:=@List.getElem?_drop
theorem DG:type_of%@List.getElem_mem:=@List.getElem_mem
theorem Bj:type_of%@Nat.mul_le_mul_right:=@Nat.mul_le_mul_right
theorem CL:type_of%@List.append_assoc:=@List.append_assoc
theorem AQ:type_of%@List.mem_cons:=@List.mem_cons
theorem Cb:type_of%@List.getElem?_eq_none:=@List.getElem?_eq_none
theorem Ax:type_of%@List.all_eq_true:=@List.all_eq_true
theorem CM:type_of%@List.mem_singleton:=@List.mem_singleton
theorem Dk:type_of%@List.length_eq_zero_iff:=@List.length_eq_zero_iff
theorem Gm:type_of%@List.getElem_of_mem:=@List.getElem_of_mem
theorem BI:type_of%@Nat.lt_or_ge:=@Nat.lt_or_ge
theorem Ez:type_of%@Bool.or_eq_true:=@Bool.or_eq_true
theorem DH:type_of%@Bool.not_eq_true':=@Bool.not_eq_true'
theorem Z {α β:Type _} (a:α) (f:α->Option β):(some a).bind f=f a:=rfl
inductive Kd where
 | int (k:IntKind) | bool | str | slice (e:Kd) | pair (a b:Kd) | own (t:TypeId) (e:Kd) | ref (K:Kd) | fun (f:Nat) | clo (f:Nat) (K:Kd)
 deriving DecidableEq
@[reducible] def Kd.T:Kd->Type
 | .int _=>Int
 | .bool=>Bool
 | .str=>ByteArray
 | .slice e=>List e.T
 | .pair a b=>a.T×b.T
 | .own _ e=>List e.T
 | .ref K=>K.T
 | .fun _=>Unit
 | .clo _ K=>K.T
def Kd.sz:Kd->Nat
 | .pair a b=>a.sz+b.sz
 | _=>1
def Kd.zero:(K:Kd)->K.T
 | .int _=>(0:Int)
 | .bool=>false
 | .str=>ByteArray.empty
 | .slice e=>([]:List e.T)
 | .pair a b=>(a.zero,b.zero)
 | .own _ e=>([]:List e.T)
 | .ref K=>K.zero
 | .fun _=>()
 | .clo _ K=>K.zero
def Kd.nown:Kd->Nat
 | .pair a b=>a.nown+b.nown
 | .own _ _=>1
 | _=>0
def Kd.plain (K:Kd):Bool:=K.nown==0
def Kd.fz:Kd->Kd
 | .pair a b=>.pair a.fz b.fz
 | .own _ e=>.slice e
 | K=>K
theorem Kd.fz_T:∀ K:Kd,K.fz.T=K.T
 | .int _=>rfl
 | .bool=>rfl
 | .str=>rfl
 | .slice _=>rfl
 | .pair a b=>by show (a.fz.T×b.fz.T)=(a.T×b.T); rw [Kd.fz_T a,Kd.fz_T b]
 | .own _ _=>rfl
 | .ref _=>rfl
 | .fun _=>rfl
 | .clo _ _=>rfl
def WB (K:Kd) (xs:List K.T):List K.fz.T:=cast (congrArg List K.fz_T.symm) xs
inductive AV where
 | undef
 | void
 | int (k:IntKind) (n:Int)
 | bool (b:Bool)
 | str (s:ByteArray)
 | nil
 | lst (K:Kd) (xs:List K.T)
 | new (t:TypeId) (K:Kd) (xs:List K.T)
 | ref (cs:List AV)
 | row (id:Nat)
 | was (id:Nat)
 | ptr (id off:Nat)
 | eptr (id i off:Nat)
 | irow (id i q:Nat)
 | fptr (cs:List AV) (off:Nat)
 | agg (cs:List AV)
 | tup (vs:List AV)
 | fn (f:Nat) (caps:List AV)
 | clo (f:Nat) (K:Kd) (x:K.T)
 | self (T:TypeId)
def Kd.enc:(K:Kd)->K.T->List AV
 | .int k,n=>[.int k n]
 | .bool,b=>[.bool b]
 | .str,s=>[.str s]
 | .slice e,xs=>[.lst e xs]
 | .pair a b,x=>a.enc x.1++b.enc x.2
 | .own t e,xs=>[.new t e xs]
 | .ref K,x=>[.ref (K.enc x)]
 | .fun f,_=>[.fn f []]
 | .clo f K,x=>[.clo f K x]
def Kd.av:(K:Kd)->K.T->AV
 | .int k,n=>.int k n
 | .bool,b=>.bool b
 | .str,s=>.str s
 | .slice e,xs=>.lst e xs
 | .pair a b,x=>.agg ((Kd.pair a b).enc x)
 | .own t e,xs=>.new t e xs
 | .ref K,x=>.ref (K.enc x)
 | .fun f,_=>.fn f []
 | .clo f K,x=>.clo f K x
def Kd.dec:(K:Kd)->List AV->Option (K.T×List AV)
 | .int k,.int k' n::r=>if k=k' then some (n,r) else none
 | .bool,.bool b::r=>some (b,r)
 | .str,.str s::r=>some (s,r)
 | .slice _,.nil::r=>some ([],r)
 | .slice e,.lst e' xs::r=>if h:e'=e then some (h▸xs,r) else none
 | .pair a b,cs=>(a.dec cs).bind fun x=>(b.dec x.2).bind fun y=>some ((x.1,y.1),y.2)
 | .own t e,.new t' e' xs::r=>if t'=t then (if h:e'=e then some (h▸xs,r) else none) else none
 | .ref K,.ref cs::r=>(K.dec cs).bind fun x=>match x.2 with | []=>some (x.1,r) | _=>none
 | .fun f,.fn f' []::r=>if f'=f then some ((),r) else none
 | .clo f K,.clo f' K' x::r=>if f'=f then (if h:K'=K then some (h▸x,r) else none) else none
 | _,_=>none
def AV.cells:AV->List AV
 | .agg cs=>cs
 | v=>[v]
def Vg:(K:Kd)->K.T->K.T->Bool
 | .int _,a,b=>a==b
 | .bool,a,b=>a==b
 | .str,a,b=>a.toList==b.toList
 | .slice _,_,_=>false
 | .pair a b,x,y=>Vg a x.1 y.1&&Vg b x.2 y.2
 | .own _ _,_,_=>false
 | .ref _,_,_=>false
 | .fun _,_,_=>false
 | .clo _ _,_,_=>false
def NC (xs:List Int):ByteArray:=⟨(xs.map fun n=>UInt8.ofNat n.toNat).toArray⟩
def AV.fits:Kd->AV->Bool
 | .pair _ _,.agg _=>true
 | .pair _ _,_=>false
 | _,.agg _=>false
 | _,_=>true
def Kd.ofCells (K:Kd) (cs:List AV):Option K.T:=(K.dec cs).bind fun x=>match x.2 with | []=>some x.1 | _=>none
def Kd.of (K:Kd) (v:AV):Option K.T:=if AV.fits K v=true then K.ofCells v.cells else none
inductive AH where
 | var (cs:List AV)
 | rows (t:TypeId) (K:Kd) (xs:List K.T)
 | mrow (t:TypeId) (K:Kd) (xs:List K.T)
 | byt (t:TypeId) (xs:List (Kd.int .u8).T)
 | hole (m:Bool) (t:TypeId) (K:Kd) (xs:List K.T) (i q:Nat)
 | frz (K:Kd) (xs:List K.T)
 | dead
structure St where
 fr:List (Nat×AV)
 st:List AH
def Cd:List (Nat×AV)->Nat->AV
 | [],_=>.undef
 | (s,v)::r,t=>if s=t then v else Cd r t
inductive BS where
 | t (n:Nat)
 | c (v:AV)
def St.opd (s:St):BS->AV
 | .t n=>Cd s.fr n
 | .c v=>v
def St.put (s:St) (d:Nat) (v:AV):St:=⟨(d,v)::s.fr,s.st⟩
@[reducible] def RT:List Kd->Type
 | []=>Unit
 | [K]=>K.T
 | K::L::Ks=>K.T×RT (L::Ks)
def Cp:(Ks:List Kd)->List AV->Option (RT Ks)
 | [],[]=>some ()
 | [K],[v]=>K.of v
 | K::L::Ks,v::vs=>(K.of v).bind fun x=>(Cp (L::Ks) vs).bind fun r=>some (x,r)
 | _,_=>none
def B6:(Ks:List Kd)->RT Ks->List AV
 | [],_=>[]
 | [K],x=>[K.av x]
 | K::L::Ks,x=>K.av x.1::B6 (L::Ks) x.2
inductive PK where
 | val (K:Kd)
 | bor (K:Kd)
 | mov (K:Kd)
 | ptr (K:Kd)
 | mut (K:Kd)
 | movS (K:Kd)
 | ept
 | cap (f:Nat) (K:Kd)
 | cap0 (f:Nat)
def B8:Nat:=1000000
def ZN (xs:List Int):Bool:=xs.all fun x=>decide (0<=x)&&decide (x<256)
def KT (b:ByteArray):List Int:=b.data.toList.map fun u=>(u.toNat:Int)
inductive Cj where
 | mv (d:Nat) (x:BS)
 | nilrow (d:Nat) (t:TypeId) (K:Kd)
 | pick (d:Nat) (c a b:BS)
 | sc (c:Nat) (want:Bool) (ops:List Cj) (d:Nat) (a b:BS)
 | alloc (d:Nat) (cs:List AV)
 | box (d:Nat) (x:BS) (own:Bool)
 | build (d:Nat) (zero:List AV) (parts:List (Nat×Nat×BS))
 | bnew (d:Nat) (zero:List AV) (parts:List (Nat×Nat×BS))
 | brow (d:Nat) (t:TypeId) (K:Kd) (parts:List BS)
 | blst (d:Nat) (K:Kd) (parts:List BS)
 | load (d:Nat) (x:BS) (n:Option Nat)
 | store (x y:BS) (m:Nat) (own:Bool)
 | nilc (d:Nat) (x:BS)
 | bin (d:Nat) (op:BinOp) (x y:BS)
 | eqs (d:Nat) (neg:Bool) (K:Kd) (x y:BS)
 | un (d:Nat) (op:UnOp) (x:BS)
 | cvi (d:Nat) (k:IntKind) (x:BS)
 | bts (d:Nat) (x:BS)
 | fld (d:Nat) (x:BS) (off:Nat)
 | field (d:Nat) (x:BS) (off:Nat) (n:Option Nat)
 | idx (d:Nat) (z:Nat) (x i:BS)
 | sidx (d:Nat) (x i:BS)
 | aidx (d n:Nat) (x i:BS)
 | sl (d:Nat) (z:Nat) (x:BS) (lo hi:Option BS)
 | mk (d:Nat) (t:TypeId) (K:Kd) (n:BS)
 | fn (d:Nat) (f:Nat) (caps:List BS)
 | clo (d:Nat) (f:Nat) (K:Kd) (x:BS)
 | fbox (d:Nat) (x:BS)
 | min (d:Nat) (x y:BS)
 | app (d:Nat) (e:TypeId) (K:Kd) (a b:BS)
 | apz (d:Nat) (e:TypeId) (K:Kd) (a b:BS)
 | len (d:Nat) (t:Bool) (x:BS)
 | call (d:Option Nat) (f:Nat) (args:List (BS×PK)) (res:List Kd)
 | icall (n:Nat) (rd:Bool) (d:Option Nat) (f:Nat) (args:List (BS×PK)) (res:List Kd)
 | bld (d:Option Nat) (k f t:Nat) (x y:BS)
 | stb (d:Nat) (t:TypeId) (x:BS)
 | ext (d:Nat) (x:BS) (i:Nat)
def St.list {ρ:Type} (s:St) (v:AV) (K:Kd) (kn:List K.T->Option ρ):Option ρ :=
 match v with
 | .nil=>kn []
 | .lst K' xs=>if h:K'=K then kn (h▸xs) else none
 | .row id=>match s.st[id]? with
  | some (.rows _ K' xs)=>if h:K'=K then (if K'.plain=true then kn (h▸xs) else none) else none
  | some (.frz K' xs)=>if h:K'=K then kn (h▸xs) else none
  | some (.mrow _ K' xs)=>if h:K'=K then (if K'.plain=true then kn (h▸xs) else none) else none
  | some (.byt _ xs)=>if h:Kd.int .u8=K then kn (h▸xs) else none
  | _=>none
 | _=>none
def St.keep (s:St) (v:AV):Option (AV×St) :=
 match v with
 | .int .. | .bool _ | .str _ | .nil | .lst .. | .fn _ [] | .clo .. => some (v,s)
 | .row id=>match s.st[id]? with
  | some (.rows _ K xs)=>if K.plain=true then some (.lst K xs,⟨s.fr,s.st.set id (.frz K xs)⟩) else none
  | some (.frz K xs)=>some (.lst K xs,s)
  | _=>none
 | _=>none
def St.keepAll (s:St):List AV->Option (List AV×St)
 | []=>some ([],s)
 | v::vs=>(s.keep v).bind fun x=>(x.2.keepAll vs).bind fun y=>some (x.1::y.1,y.2)
def St.keepAlls (s:St):List AV->Option (List (List AV)×St)
 | []=>some ([],s)
 | v::vs=>(s.keepAll v.cells).bind fun x=>(x.2.keepAlls vs).bind fun y=>some (x.1::y.1,y.2)
def Ap:List AV->Nat->List AV->List AV
 | cs,_,[]=>cs
 | cs,o,v::vs=>Ap (cs.set o v) (o+1) vs
def AV.solid:AV->Bool
 | .int .. | .bool _ | .str _ | .nil | .lst .. | .fn _ [] | .clo .. => true
 | _=>false
def AV.good:AV->Bool
 | .row _=>true
 | v=>v.solid
def AV.firm:AV->Bool
 | .agg cs=>cs.all AV.solid
 | v=>v.solid
def Az:List Nat->Nat->Bool
 | [],_=>false
 | a::r,i=>if a=i then true else Az r i
def AV.kill1 (ids:List Nat):AV->AV
 | .row i=>if Az ids i=true then .undef else .row i
 | .eptr i j o=>if Az ids i=true then .undef else .eptr i j o
 | .irow _ _ _=>.undef
 | .agg _=>.undef
 | .tup _=>.undef
 | v=>v
def AV.kill (ids:List Nat):AV->AV
 | .agg cs=>.agg (cs.map (AV.kill1 ids))
 | .tup vs=>if vs.all AV.firm=true then .tup vs else .undef
 | v=>v.kill1 ids
def Cq (ids:List Nat) (p:Nat×AV):Nat×AV:=(p.1,p.2.kill ids)
def AV.killB (ids:List Nat):AV->AV
 | .row i=>if Az ids i=true then .was i else .row i
 | v=>v
def AH.kill (ids:List Nat):AH->AH
 | .var cs=>.var (cs.map (AV.killB ids))
 | b=>b
def St.kill (s:St) (ids:List Nat):St:=⟨s.fr.map (Cq ids),s.st.map (AH.kill ids)⟩
def ZU:Option AH->Bool
 | some (.rows _ _ _)=>true
 | some .dead=>true
 | _=>false
def St.intoRow (s:St) (i:Nat) (v:AV):Option (AV×St×List Nat) :=
 match v with
 | .row k=>if k=i then some (.row i,s,[]) else match s.st[k]? with
  | some (.rows t K xs)=>if ZU s.st[i]? = true then some (.row i,⟨s.fr.map (Cq [i,k]),((s.st.map (AH.kill [i,k])).set i (.rows t K xs)).set k .dead⟩,[i,k]) else none
  | _=>none
 | .nil=>match s.st[i]? with
  | some (.rows t K _)=>some (.row i,⟨s.fr.map (Cq [i]),(s.st.map (AH.kill [i])).set i (.rows t K [])⟩,[i])
  | _=>none
 | _=>none
def St.into (s:St) (own:Bool) (c v:AV):Option (AV×St×List Nat) :=
 match c with
 | .row i=>s.intoRow i v
 | .was i=>s.intoRow i v
 | _=>if own=true then (match v with
   | .row k=>some (.row k,s,[])
   | _=>if v.solid=true then some (v,s,[]) else none)
  else (s.keep v).bind fun x=>some (x.1,x.2,[])
def AV.rowIn (ids:List Nat):AV->Bool
 | .row i=>Az ids i
 | _=>false
def St.intoAll (s:St) (own:Bool):List AV->List AV->Option (List AV×St×List Nat)
 | [],[]=>some ([],s,[])
 | c::cs,v::vs=>(s.into own c v).bind fun x=>(x.2.1.intoAll own cs (vs.map (AV.kill1 x.2.2))).bind fun y =>
   if x.1.rowIn y.2.2=true then none else some (x.1::y.1,y.2.1,x.2.2++y.2.2)
 | _,_=>none
def St.stash (s:St) (own:Bool) (cs:List AV):Option (List AV×St) :=
 if own=true then (if cs.all AV.good=true then some (cs,s) else none) else s.keepAll cs
def Kd.leaves:Kd->List Kd
 | .pair a b=>a.leaves++b.leaves
 | K=>[K]
def Kd.isOwn:Kd->Bool
 | .own _ _=>true
 | _=>false
def OH:List Nat->Bool
 | []=>true
 | p::r=>!(Az r p)&&OH r
def AV.isNew:AV->Bool
 | .new .. | .ref _=>true
 | _=>false
def AG:List AV->Nat
 | []=>0
 | a::r=>if a.isNew=true then AG r+1 else AG r
def Im (st:List AH):List Nat->Bool
 | []=>true
 | i::r=>(match st[i]? with | some (.rows _ _ _)=>true | _=>false)&&Im st r
def D3:List Nat->List AH->List AH
 | [],st=>st
 | j::js,st=>D3 js (st.set j .dead)
def St.takeC (s:St):List Kd->List AV->Option (List AV×St×List Nat)
 | [],[]=>some ([],s,[])
 | k::ks,v::vs=>match k with
  | .own t e=>match v with
   | .row j=>match s.st[j]? with
    | some (.rows t' e' xs)=>if Kd.own t' e'=k/\e'.plain=true then (s.takeC ks vs).bind fun y=>some (.new t' e' xs::y.1,y.2.1,j::y.2.2) else none
    | _=>none
   | .nil=>(s.takeC ks vs).bind fun y=>some (.new t e []::y.1,y.2)
   | _=>none
  | _=>(s.keep v).bind fun x=>(x.2.takeC ks vs).bind fun y=>some (x.1::y.1,y.2)
 | _,_=>none
def St.takeAll (s:St) (ks:List Kd):List AV->Option (List (List AV)×St×List Nat)
 | []=>some ([],s,[])
 | v::vs=>(s.takeC ks v.cells).bind fun x=>(x.2.1.takeAll ks vs).bind fun y=>some (x.1::y.1,y.2.1,x.2.2++y.2.2)
structure SN where
 t:TypeId
 e:Kd
 xs:List e.T
def Kd.innG:(K:Kd)->K.T->Nat->Option SN
 | .pair a b,x,q=>if q<a.nown then a.innG x.1 q else b.innG x.2 (q-a.nown)
 | .own t e,xs,0=>some ⟨t,e,xs⟩
 | _,_,_=>none
def Kd.innS:(K:Kd)->K.T->Nat->SN->Option K.T
 | .pair a b,x,q,r=>if q<a.nown then (a.innS x.1 q r).bind fun y=>some (y,x.2) else (b.innS x.2 (q-a.nown) r).bind fun y=>some (x.1,y)
 | .own t e,_,0,r=>if r.t=t then (if h:r.e=e then some (h▸r.xs) else none) else none
 | _,_,_,_=>none
def Vi (id i:Nat) (hl:Bool):Nat->(K:Kd)->K.T->List AV
 | n,.pair a b,x=>Vi id i hl n a x.1++Vi id i hl (n+a.nown) b x.2
 | n,.own _ _,_=>[if hl=true then .undef else .irow id i n]
 | _,K,x=>K.enc x
def Gy (m:Bool) (t:TypeId) (K:Kd) (xs:List K.T):AH:=if m=true then .mrow t K xs else .rows t K xs
def St.openAt (s:St) (n:Nat):Option (Nat×St) :=
 match Cd s.fr n with
 | .irow id i q=>match s.st[id]? with
  | some (.rows t K xs)=>(K.innG (xs.getD i K.zero) q).bind fun r=>some (id,⟨(n,.row s.st.length)::s.fr.map (Cq []),s.st.set id (.hole false t K xs i q)++[.rows r.t r.e r.xs]⟩)
  | some (.mrow t K xs)=>(K.innG (xs.getD i K.zero) q).bind fun r=>some (id,⟨(n,.row s.st.length)::s.fr.map (Cq []),s.st.set id (.hole true t K xs i q)++[.rows r.t r.e r.xs]⟩)
  | _=>none
 | _=>none
def St.closeAt (s:St) (id k:Nat) (rd:Bool):Option St :=
 match s.st[id]? with
 | some (.hole m t K xs i q)=>match s.st[k]? with
  | some (.rows t' e' ys)=>if e'.plain=false then none else if rd=true then some ⟨s.fr.map (Cq [k]),((s.st.map (AH.kill [k])).set k .dead).set id (Gy m t K xs)⟩
   else (K.innS (xs.getD i K.zero) q ⟨t',e',ys⟩).bind fun x=>some ⟨s.fr.map (Cq [k]),((s.st.map (AH.kill [k])).set k .dead).set id (Gy m t K (xs.set i x))⟩
  | _=>none
 | _=>none
def St.behind (s:St) (v:AV):Option (List AV×Nat) :=
 match v with
 | .fptr cs off=>some (cs,off)
 | .ptr id off=>match s.st[id]? with
  | some (.var cs)=>some (cs,off)
  | _=>none
 | .eptr id i off=>match s.st[id]? with
  | some (.rows _ K xs)=>some (Vi id i false 0 K (xs.getD i K.zero),off)
  | some (.frz K xs)=>some (K.enc (xs.getD i K.zero),off)
  | some (.mrow _ K xs)=>some (Vi id i false 0 K (xs.getD i K.zero),off)
  | some (.hole _ _ K xs _ _)=>some (Vi id i true 0 K (xs.getD i K.zero),off)
  | some (.byt _ xs)=>some ((Kd.int .u8).enc (xs.getD i (Kd.int .u8).zero),off)
  | _=>none
 | _=>none
def part (cs:List AV) (off:Nat):Option Nat->AV
 | some n=>.agg ((cs.drop off).take n)
 | none=>(cs.drop off).headD .undef
def AV.full:AV->Bool
 | .undef | .void | .tup _ | .new .. | .ref _ | .was _ | .self _ | .irow .. => false
 | _=>true
def St.filled (s:St):List AV->List (Nat×Nat×BS)->Option (List AV)
 | cs,[]=>some cs
 | cs,(off,n,x)::r=>if (s.opd x).full=true/\(s.opd x).cells.length=n/\off+n<=cs.length then s.filled (Ap cs off (s.opd x).cells) r else none
def Wl (st:List AH) (id:Nat):Option Kd :=
 match st[id]? with
 | some (.rows _ K _)=>if K.plain=true then none else some K
 | some (.mrow _ K _)=>if K.plain=true then none else some K
 | some (.hole _ _ K _ _ _)=>some K
 | _=>none
def St.storeN (s:St) (id i off:Nat) (K0:Kd) (vs:List AV):Option St :=
 (s.takeC ((K0.leaves.drop off).take vs.length) vs).bind fun z=>if (OH z.2.2&&!Az z.2.2 id&&Im z.2.1.st z.2.2)=true then
  match z.2.1.st[id]? with
  | some (.rows t K xs)=>if off+z.1.length<=K.sz then (K.dec (Ap (K.enc (xs.getD i K.zero)) off z.1)).bind fun x =>
    some ⟨z.2.1.fr.map (Cq z.2.2),(D3 z.2.2 (z.2.1.st.map (AH.kill z.2.2))).set id (.rows t K (xs.set i x.1))⟩ else none
  | some (.mrow t K xs)=>if off+z.1.length<=K.sz then (K.dec (Ap (K.enc (xs.getD i K.zero)) off z.1)).bind fun x =>
    some ⟨z.2.1.fr.map (Cq z.2.2),(D3 z.2.2 (z.2.1.st.map (AH.kill z.2.2))).set id (.mrow t K (xs.set i x.1))⟩ else none
  | some (.hole m t K xs i q)=>(if (z.1.length=1/\off<K.sz/\AG ((K.enc (xs.getD i K.zero)).take off)=q/\AG ((K.enc (xs.getD i K.zero)).take (off+1))=q+1) then (K.dec (Ap (K.enc (xs.getD i K.zero)) off z.1)).bind fun x =>
    some ⟨z.2.1.fr.map (Cq z.2.2),(D3 z.2.2 (z.2.1.st.map (AH.kill z.2.2))).set id (Gy m t K (xs.set i x.1))⟩ else none)
  | _=>none
 else none
def St.holeI (s:St):AV->Option (Nat×Nat)
 | .eptr id i _=>match s.st[id]? with
  | some (.hole _ _ _ _ i' _)=>some (i,i')
  | _=>none
 | _=>none
def St.storeAt (s:St) (own:Bool) (p:AV) (vs:List AV):Option St :=
 match p with
 | .ptr id off=>match s.st[id]? with
  | some (.var cs)=>if off+vs.length<=cs.length then (s.intoAll own ((cs.drop off).take vs.length) vs).bind fun y=>match y.2.1.st[id]? with
    | some (.var cs')=>some ⟨y.2.1.fr,y.2.1.st.set id (.var (Ap cs' off y.1))⟩
    | _=>none
   else none
  | _=>none
 | .eptr id i off=>match Wl s.st id with
  | some K=>s.storeN id i off K vs
  | none=>(s.keepAll vs).bind fun z=>match z.2.st[id]? with
  | some (.rows t K xs)=>if off+z.1.length<=K.sz then
    (K.dec (Ap (K.enc (xs.getD i K.zero)) off z.1)).bind fun x=>some ⟨z.2.fr,z.2.st.set id (.rows t K (xs.set i x.1))⟩
   else none
  | some (.mrow t K xs)=>if off+z.1.length<=K.sz then
    (K.dec (Ap (K.enc (xs.getD i K.zero)) off z.1)).bind fun x=>some ⟨z.2.fr,z.2.st.set id (.mrow t K (xs.set i x.1))⟩
   else none
  | some (.byt t xs)=>if off=0 then (match z.1 with
   | [.int .u8 c]=>some ⟨z.2.fr,z.2.st.set id (.byt t (xs.set i c))⟩
   | _=>none) else none
  | _=>none
 | _=>none
def F0 (k:IntKind) (a b:Int):Int:=k.wrap (BitVec.ofInt k.bits a &&& BitVec.ofInt k.bits b).toNat
def Vj (k:IntKind) (a b:Int):Int:=k.wrap (BitVec.ofInt k.bits a ||| BitVec.ofInt k.bits b).toNat
def PG (k:IntKind) (a b:Int):Int:=k.wrap (BitVec.ofInt k.bits a ^^^ BitVec.ofInt k.bits b).toNat
def RG {ρ:Type} (op:BinOp) (x y:AV) (kn:AV->Option ρ):Option ρ :=
 match x,y with
 | .int k a,.int k' b =>
  match op with
  | .shl=>if b<0 then none else kn (.int k (k.wrap (a*2^(min b.toNat k.bits))))
  | .shr=>if b<0 then none else kn (.int k (a.fdiv (2^(min b.toNat k.bits))))
  | _=>if k=k' then
   match op with
   | .add=>kn (.int k (k.wrap (a+b)))
   | .sub=>kn (.int k (k.wrap (a-b)))
   | .mul=>kn (.int k (k.wrap (a*b)))
   | .quo=>if b=0 then none else kn (.int k (k.wrap (a.tdiv b)))
   | .rem=>if b=0 then none else kn (.int k (a.tmod b))
   | .and=>kn (.int k (F0 k a b))
   | .or=>kn (.int k (Vj k a b))
   | .xor=>kn (.int k (PG k a b))
   | .eql=>kn (.bool (a==b))
   | .neq=>kn (.bool (a != b))
   | .lss=>kn (.bool (a<b))
   | .leq=>kn (.bool (a<=b))
   | .gtr=>kn (.bool (a>b))
   | .geq=>kn (.bool (a>=b))
   | _=>none
  else none
 | .str a,.str b =>
  match op with
  | .add=>if a.size+b.size<=1099511627776 then kn (.str (a++b)) else none
  | .eql=>kn (.bool (a.toList==b.toList))
  | .neq=>kn (.bool (!(a.toList==b.toList)))
  | .lss=>kn (.bool (Op.bytesLess a.toList b.toList))
  | .leq=>kn (.bool (Op.bytesLess a.toList b.toList||a.toList==b.toList))
  | .gtr=>kn (.bool (!(Op.bytesLess a.toList b.toList||a.toList==b.toList)))
  | .geq=>kn (.bool (!(Op.bytesLess a.toList b.toList)))
  | _=>none
 | _,_=>none
def Wm {ρ:Type} (op:UnOp) (x:AV) (kn:AV->Option ρ):Option ρ :=
 match op,x with
 | .not,.bool b=>kn (.bool (!b))
 | .neg,.int k n=>kn (.int k (k.wrap (0-n)))
 | _,_=>none
def Kd.ofs (K:Kd):List (List AV)->Option (List K.T)
 | []=>some []
 | cs::vs=>(K.dec cs).bind fun x=>match x.2 with | []=>(K.ofs vs).bind fun xs=>some (x.1::xs) | _=>none
def Aq:Nat->List AV->List AV
 | _,[]=>[]
 | k,a::r=>match a with
  | .new .. => .row k::Aq (k+1) r
  | .ref _=>.ptr k 0::Aq (k+1) r
  | a=>a::Aq k r
def Ae:List AV->List AH
 | []=>[]
 | a::r=>match a with
  | .new t K xs=>.rows t K xs::Ae r
  | .ref cs=>.var cs::Ae r
  | _=>Ae r
def PH (k:Nat):AV->AV
 | .agg cs=>.agg (Aq k cs)
 | v=>(Aq k [v]).headD .undef
def Bv:Nat->List AV->List AV
 | _,[]=>[]
 | k,v::r=>PH k v::Bv (k+AG v.cells) r
def AV.cellsO:AV->List AV
 | .new .. => []
 | v=>v.cells
def Uo (k:Nat):AV->AH
 | .new t K xs=>.mrow t K xs
 | v=>.var (Aq k v.cells)
def Gz:Nat->List AV->List AH
 | _,[]=>[]
 | k,v::r=>Uo k v::Gz (k+AG v.cellsO) r
def Ki:List AV->List AH
 | []=>[]
 | v::r=>Ae v.cellsO++Ki r
def PI:List AV->List AH
 | []=>[]
 | v::r=>Ae v.cells++PI r
def BK (outs vs:List AV):List AH:=Gz outs.length outs++(Ki outs++PI vs)
def C6 (outs:List AV):Nat:=outs.length+(Ki outs).length
def Kd.owns (K:Kd):List Kd:=K.leaves.filter Kd.isOwn
def RH:List Kd->Nat->List (Nat×Kd)
 | [],_=>[]
 | k::ks,j=>(j,k)::RH ks (j+1)
def Rb (st:List AH):List AV->Option (List AV×List Nat)
 | []=>some ([],[])
 | v::vs=>match v with
  | .row id=>match st[id]? with
   | some (.rows _ e xs)=>(Rb st vs).bind fun r=>some (.lst e.fz (WB e xs)::r.1,id::r.2)
   | some (.frz e xs)=>(Rb st vs).bind fun r=>some (.lst e xs::r.1,r.2)
   | _=>none
  | v=>if v.solid=true then (Rb st vs).bind fun r=>some (v::r.1,r.2) else none
def AV.norm (k:Kd) (v:AV):Option AV :=
 match v with
 | .nil=>match k with
  | .slice e=>some (.lst e [])
  | _=>none
 | v=>if v.solid=true then some v else none
def NP (st:List AH):Nat->List Kd->List AV->Option (List AV×List (Nat×Kd))
 | _,[],[]=>some ([],[])
 | j,k::ks,v::vs=>match v with
  | .row id=>match st[id]? with
   | some (.rows t e _)=>if Kd.own t e=k then (NP st (j+1) ks vs).bind fun r=>some (.row j::r.1,(id,k)::r.2) else none
   | some (.mrow t e _)=>if Kd.own t e=k then (NP st (j+1) ks vs).bind fun r=>some (.row j::r.1,(id,k)::r.2) else none
   | _=>none
  | v=>(v.norm k).bind fun a=>(NP st j ks vs).bind fun r=>some (a::r.1,r.2)
 | _,_,_=>none
def AV.like (v:AV) (cs:List AV):AV :=
 match v with
 | .agg _=>.agg cs
 | _=>cs.headD .undef
structure Uq where
 args:List AV
 ptrs:List (Nat×Kd)
 movs:List Nat
 bors:List Nat
def St.settle (s:St):List Kd->List AV->Option St
 | [],[]=>some s
 | k::ks,v::vs=>match v with
  | .row i=>match k with
   | .own _ _=>s.settle ks vs
   | _=>(s.keep (.row i)).bind fun x=>x.2.settle ks vs
  | _=>s.settle ks vs
 | _,_=>none
def FI (st:List AH):List Kd->List AV->Option (List AV×List Nat)
 | [],[]=>some ([],[])
 | k::ks,v::vs=>match v with
  | .row i=>match k with
   | .own _ _=>match st[i]? with
    | some (.rows t e xs)=>(FI st ks vs).bind fun y=>some (.new t e xs::y.1,i::y.2)
    | _=>none
   | .slice e'=>match st[i]? with
    | some (.frz e xs)=>if e=e' then (FI st ks vs).bind fun y=>some (.lst e xs::y.1,y.2) else none
    | _=>none
   | _=>none
  | v=>(v.norm k).bind fun a=>(FI st ks vs).bind fun y=>some (a::y.1,y.2)
 | _,_=>none
def St.args (s:St):List (BS×PK)->Nat->Option (Uq×St)
 | [],_=>some (⟨[],[],[],[]⟩,s)
 | (x,.val K)::r,j=>if AV.fits K (s.opd x)=true then (s.keepAll (s.opd x).cells).bind fun y=>(K.ofCells y.1).bind fun z=>(y.2.args r j).bind fun q =>
   some (⟨K.av z::q.1.args,q.1.ptrs,q.1.movs,q.1.bors⟩,q.2) else none
 | (x,.bor K)::r,j=>match s.opd x with
  | .row id=>match s.st[id]? with
   | some (.rows _ e xs)=>if Kd.slice e.fz=K then (s.args r j).bind fun q=>some (⟨.lst e.fz (WB e xs)::q.1.args,q.1.ptrs,q.1.movs,id::q.1.bors⟩,q.2) else none
   | some (.frz e xs)=>if Kd.slice e=K then (s.args r j).bind fun q=>some (⟨.lst e xs::q.1.args,q.1.ptrs,q.1.movs,q.1.bors⟩,q.2) else none
   | _=>none
  | .agg cs=>if AV.fits K (.agg cs)=true then (Rb s.st cs).bind fun y=>(K.ofCells y.1).bind fun z=>(s.args r j).bind fun q=>some (⟨K.av z::q.1.args,q.1.ptrs,q.1.movs,y.2++q.1.bors⟩,q.2) else none
  | v=>if v.solid=true then (K.ofCells [v]).bind fun z=>(s.args r j).bind fun q=>some (⟨K.av z::q.1.args,q.1.ptrs,q.1.movs,q.1.bors⟩,q.2) else none
 | (x,.mov K)::r,j=>match s.opd x with
  | .row id=>match s.st[id]? with
   | some (.rows t e xs)=>if Kd.own t e=K then (s.args r j).bind fun q=>some (⟨.new t e xs::q.1.args,q.1.ptrs,id::q.1.movs,q.1.bors⟩,q.2) else none
   | _=>none
  | _=>none
 | (x,.movS K)::r,j=>match s.opd x with
  | .agg cs=>(FI s.st K.leaves cs).bind fun y=>(s.args r j).bind fun q=>some (⟨.agg y.1::q.1.args,q.1.ptrs,y.2++q.1.movs,q.1.bors⟩,q.2)
  | _=>none
 | (x,.ept)::r,j=>match s.opd x with
  | .eptr id i 0=>(s.args r j).bind fun q=>some (⟨.eptr id i 0::q.1.args,q.1.ptrs,q.1.movs,q.1.bors⟩,q.2)
  | _=>none
 | (x,.ptr K)::r,j=>match s.opd x with
  | .ptr id 0=>match s.st[id]? with
   | some (.var cs)=>(s.settle K.leaves cs).bind fun s1=>(s1.args r (j+1)).bind fun q=>some (⟨.ptr j 0::q.1.args,(id,K)::q.1.ptrs,q.1.movs,q.1.bors⟩,q.2)
   | _=>none
  | _=>none
 | (x,.mut K)::r,j=>(NP s.st j K.leaves (s.opd x).cells).bind fun y=>(s.args r (j+y.2.length)).bind fun q =>
   some (⟨(s.opd x).like y.1::q.1.args,y.2++q.1.ptrs,q.1.movs,q.1.bors⟩,q.2)
 | (x,.cap f K)::r,j=>match s.opd x with
  | .clo f' K' z=>if f'=f then (if K'=K then (s.args r j).bind fun q=>some (⟨.fptr (K'.enc z) 0::q.1.args,q.1.ptrs,q.1.movs,q.1.bors⟩,q.2) else none) else none
  | _=>none
 | (x,.cap0 f)::r,j=>match s.opd x with
  | .fn f' []=>if f'=f then s.args r j else none
  | _=>none
def Gn:List Kd->List AV->Option (List AV)
 | [],[]=>some []
 | k::ks,v::vs=>(v.norm k).bind fun a=>(Gn ks vs).bind fun r=>some (a::r)
 | _,_=>none
def F3 (st:List AH):List (Nat×Kd)->Option (List AV×List Nat)
 | []=>some ([],[])
 | (b,K)::bs=>match st[b]? with
  | some (.var cs)=>if K.isOwn=true then none else (FI st K.leaves cs).bind fun y=>(K.ofCells y.1).bind fun x=>(F3 st bs).bind fun r=>some (K.av x::r.1,y.2++r.2)
  | some (.rows t e xs)=>if Kd.own t e=K then (F3 st bs).bind fun r=>some (.new t e xs::r.1,r.2) else none
  | some (.mrow t e xs)=>if Kd.own t e=K then (F3 st bs).bind fun r=>some (.new t e xs::r.1,r.2) else none
  | _=>none
def UF:List Nat->List Nat->Bool
 | [],_=>true
 | p::r,l=>!(Az l p)&&UF r l
def Jc:List Nat->Nat->Option Nat
 | [],_=>none
 | a::r,i=>if a=i then some 0 else (Jc r i).map (· + 1)
def KU (back:List Nat):AV->AV
 | .eptr id i o=>match Jc back id with
  | some j=>.eptr j i o
  | none=>.undef
 | v=>v
def AV.ren (f:Nat->Nat):AV->AV
 | .irow _ _ _=>.undef
 | .row k=>.row (f k)
 | .ptr k o=>.ptr (f k) o
 | .eptr k i o=>.eptr (f k) i o
 | v=>v
def AV.renV (f:Nat->Nat):AV->AV
 | .agg cs=>.agg (cs.map (AV.ren f))
 | v=>v.ren f
def AH.ren (f:Nat->Nat):AH->AH
 | .var cs=>.var (cs.map (AV.ren f))
 | b=>b
def Fz (back:List Nat) (n k:Nat):Nat:=if k<back.length then back.getD k 0 else n+(k-back.length)
def SO:AH->AH->AH
 | .rows _ _ _,.mrow t K xs=>.rows t K xs
 | _,e=>e
def Jm (back gone:List Nat) (nv n:Nat) (est:List AH):Nat->List AH->List AH
 | _,[]=>[]
 | i,b::r=>(if Az gone i=true then .dead else match Jc back i with
   | some k=>(SO b (est.getD k .dead)).ren (Fz back n)
   | none=>b.kill (back.drop nv++gone))::Jm back gone nv n est (i+1) r
def G0 (st:List AH) (nv:Nat) (back gone:List Nat) (est:List AH):List AH :=
 Jm back gone nv st.length est 0 st++(est.drop back.length).map (AH.ren (Fz back st.length))
def Kd.flat:Kd->Bool
 | .slice _ | .ref _ | .fun _ | .clo _ _=>false
 | .own _ e=>e.flat
 | .pair a b=>a.flat&&b.flat
 | _=>true
def AV.flat:AV->Bool
 | .int .. | .bool _ | .str _ | .nil | .row _ | .was _ | .ptr .. => true
 | _=>false
def AV.flatV:AV->Bool
 | .agg cs=>cs.all AV.flat
 | v=>v.flat
def AH.flat:AH->Bool
 | .var cs=>cs.all AV.flat
 | .rows _ K _=>K.flat
 | .mrow _ K _=>K.flat
 | _=>false
def ZO:List AV->AV
 | [v]=>v
 | vs=>.tup vs
mutual
def Cj.dsts:Cj->List Nat
 | .mv d _ | .nilrow d _ _ | .pick d _ _ _ | .alloc d _ | .box d _ _ | .build d _ _ | .bnew d _ _ | .brow d _ _ _ | .blst d _ _ | .load d _ _ | .nilc d _ | .bin d _ _ _
 | .eqs d _ _ _ _ | .un d _ _ | .cvi d _ _ | .bts d _ | .fld d _ _ | .field d _ _ _ | .idx d _ _ _ | .sidx d _ _ | .aidx d _ _ _ | .sl d _ _ _ _ | .mk d _ _ _ | .fn d _ _ | .clo d _ _ _ | .fbox d _ | .min d _ _
 | .app d _ _ _ _ | .apz d _ _ _ _ | .len d _ _ | .ext d _ _ | .stb d _ _=>[d]
 | .call d _ _ _=>d.toList
 | .icall _ _ d _ _ _=>d.toList
 | .bld d _ _ _ _ _=>d.toList
 | .store _ _ _ _=>[]
 | .sc _ _ ops d _ _=>Cr ops++[d]
def Cr:List Cj->List Nat
 | []=>[]
 | o::os=>o.dsts++Cr os
end
def St.forget (s:St) (ds:List Nat):St:=⟨ds.map (fun t=>(t,.undef))++s.fr,s.st⟩
def Ur (d:Option Nat) (v:AV) (fr:List (Nat×AV)):List (Nat×AV):=match d with | some d=>(d,v)::fr | none=>fr
def Cj.isVal:Cj->Bool
 | .mv .. | .pick .. | .load .. | .nilc .. | .bin .. | .eqs .. | .un .. | .cvi .. | .fld .. | .field .. | .idx .. | .sidx .. | .aidx .. | .sl .. | .fn .. | .clo .. | .min .. | .len .. | .ext .. | .build .. => true
 | _=>false
def KV (s:St) (args:List (BS×PK)):List Nat:=match s.args args 0 with
 | some q=>match F3 q.2.st q.1.ptrs with
  | some bx=>q.1.ptrs.map (·.1)++bx.2++q.1.movs
  | none=>[]
 | none=>[]
def Us (s:St) (args:List (BS×PK)):List Nat:=match s.args args 0 with
 | some q=>q.1.ptrs.map (·.1)
 | none=>[]
def Cj.touch (s:St):Cj->List Nat
 | .store x _ _ _=>match s.opd x with
  | .ptr id _=>[id]
  | .eptr id _ _=>[id]
  | _=>[]
 | .app _ _ _ a _=>match s.opd a with
  | .row id=>[id]
  | .irow id _ _=>[id]
  | _=>[]
 | .apz _ _ _ a _=>match s.opd a with
  | .row id=>[id]
  | _=>[]
 | .call _ _ args _=>KV s args
 | .icall n _ _ _ args _=>match s.openAt n with
  | some y=>y.1::KV y.2 args
  | none=>[]
 | .bld _ _ _ _ x _=>match s.opd x with
  | .ptr id _=>match s.st[id]? with
   | some (.var [.self _,.row j])=>[id,j]
   | _=>[]
  | _=>[]
 | _=>[]
def YT (k:Nat) (y:AV):Option (List Int) :=
 match y with
 | .int .u8 c=>if k=0 then some [c] else none
 | .str b=>if k=1 then some (KT b) else none
 | _=>none
abbrev Cz:=Nat->List AV->List AV->Option (List AV)
def SP {ρ:Type} (cal:Cz) (kn:St->Option ρ) (s:St) (d:Option Nat) (f:Nat) (args:List (BS×PK)) (res:List Kd):Option ρ :=
 (s.args args 0).bind fun q=>(F3 q.2.st q.1.ptrs).bind fun bx =>
   if (OH (q.1.ptrs.map (·.1)++bx.2++q.1.movs)&&UF q.1.bors (q.1.ptrs.map (·.1)++bx.2++q.1.movs)&&Im q.2.st (q.1.movs++q.1.bors))=true then
    ((cal f (q.1.args.map (KU (q.1.ptrs.map (·.1)++bx.2))) bx.1).bind (Cp (res++q.1.ptrs.map (·.2)))).bind fun y =>
     if (q.1.bors.isEmpty||((BK ((B6 _ y).drop res.length) ((B6 _ y).take res.length)).all AH.flat
       && (Bv (C6 ((B6 _ y).drop res.length)) ((B6 _ y).take res.length)).all AV.flatV))=true then
      kn ⟨Ur d (ZO ((Bv (C6 ((B6 _ y).drop res.length)) ((B6 _ y).take res.length)).map (AV.renV (Fz (q.1.ptrs.map (·.1)++bx.2) q.2.st.length))))
        (q.2.fr.map (Cq (bx.2++q.1.movs))),
       G0 q.2.st q.1.ptrs.length (q.1.ptrs.map (·.1)++bx.2) q.1.movs (BK ((B6 _ y).drop res.length) ((B6 _ y).take res.length))⟩
     else none
   else none
def St.appR {ρ:Type} (s:St) (d:Nat) (e:TypeId) (K:Kd) (id:Nat) (b:AV) (kn:St->Option ρ):Option ρ :=
 match s.st[id]? with
 | some (.rows t K' xs)=>if h:K'=K then (if t=e then
   (if K'.plain=true then
    s.list b K fun ys=>if xs.length+ys.length<=68719476736 then kn ⟨(d,.row id)::s.fr.map (Cq [id]),(s.st.map (AH.kill [id])).set id (.rows t K ((h▸xs)++ys))⟩ else none
   else match b with
    | .row j=>if j=id then none else match s.st[j]? with
     | some (.rows _ K2 ys)=>if h2:K2=K then (if xs.length+ys.length<=68719476736 then
       kn ⟨(d,.row id)::s.fr.map (Cq [id,j]),((s.st.map (AH.kill [id,j])).set j .dead).set id (.rows t K ((h▸xs)++(h2▸ys)))⟩ else none) else none
     | _=>none
    | _=>none) else none) else none
 | _=>none
mutual
def CN {ρ:Type} (cal:Cz) (kn:St->Option ρ) (s:St):Cj->Option ρ
 | .mv d x=>kn (s.put d (s.opd x))
 | .nilrow d t K=>kn ⟨(d,.row s.st.length)::s.fr,s.st++[.rows t K []]⟩
 | .pick d c a b=>match s.opd c with
  | .bool t=>if t=true then kn (s.put d (s.opd a)) else kn (s.put d (s.opd b))
  | _=>none
 | .sc c want ops d a b=>match Cd s.fr c with
  | .bool t =>
   if t=want then QR cal (fun s'=>kn (s'.put d (if want then s'.opd a else s'.opd b))) s ops
   else kn ((s.forget (Cr ops)).put d (if want then (s.forget (Cr ops)).opd b else (s.forget (Cr ops)).opd a))
  | _=>none
 | .alloc d cs=>kn ⟨(d,.ptr (s.st.length+AG cs) 0)::s.fr,s.st++Ae cs++[.var (Aq s.st.length cs)]⟩
 | .box d x own=>(s.stash own (s.opd x).cells).bind fun y=>kn ⟨(d,.ptr y.2.st.length 0)::y.2.fr,y.2.st++[.var y.1]⟩
 | .build d zero parts=>(s.filled zero parts).bind fun cs=>kn (s.put d (.agg cs))
 | .bnew d zero parts=>(s.filled (Aq s.st.length zero) parts).bind fun cs=>kn ⟨(d,.agg cs)::s.fr,s.st++Ae zero⟩
 | .brow d t K parts=>if K.plain=true then (s.keepAlls (parts.map s.opd)).bind fun y=>(K.ofs y.1).bind fun xs=>kn ⟨(d,.row y.2.st.length)::y.2.fr,y.2.st++[.rows t K xs]⟩
  else (s.takeAll K.leaves (parts.map s.opd)).bind fun y=>if (OH y.2.2&&Im y.2.1.st y.2.2)=true then (K.ofs y.1).bind fun xs =>
   kn ⟨(d,.row y.2.1.st.length)::y.2.1.fr.map (Cq (y.2.1.st.length::y.2.2)),(D3 y.2.2 ((y.2.1.st++[AH.rows t K []]).map (AH.kill (y.2.1.st.length::y.2.2)))).set y.2.1.st.length (AH.rows t K xs)⟩ else none
 | .blst d K parts=>(s.keepAlls (parts.map s.opd)).bind fun y=>(K.ofs y.1).bind fun xs=>kn (y.2.put d (.lst K xs))
 | .load d x n=>(s.behind (s.opd x)).bind fun y=>if y.2+n.getD 1<=y.1.length then kn (s.put d (part y.1 y.2 n)) else none
 | .store x y m own=>if (s.opd y).cells.length=m then (match s.holeI (s.opd x) with
  | some p=>if p.1=p.2 then (s.storeAt own (s.opd x) (s.opd y).cells).bind kn else none
  | none=>(s.storeAt own (s.opd x) (s.opd y).cells).bind kn) else none
 | .nilc d x=>match s.opd x with
  | .ptr id off=>kn (s.put d (.ptr id off))
  | .eptr id i off=>kn (s.put d (.eptr id i off))
  | .fptr cs off=>kn (s.put d (.fptr cs off))
  | _=>none
 | .bin d op x y=>RG op (s.opd x) (s.opd y) fun v=>kn (s.put d v)
 | .eqs d neg K x y=>(K.of (s.opd x)).bind fun a=>(K.of (s.opd y)).bind fun b=>kn (s.put d (.bool (neg != Vg K a b)))
 | .un d op x=>Wm op (s.opd x) fun v=>kn (s.put d v)
 | .cvi d k x=>match s.opd x with
  | .int _ n=>kn (s.put d (.int k (k.wrap n)))
  | _=>none
 | .bts d x=>s.list (s.opd x) (.int .u8) fun xs=>kn (s.put d (.str (NC xs)))
 | .fld d x off=>match s.opd x with
  | .ptr id o=>kn (s.put d (.ptr id (o+off)))
  | .eptr id i o=>kn (s.put d (.eptr id i (o+off)))
  | .fptr cs o=>kn (s.put d (.fptr cs (o+off)))
  | _=>none
 | .field d x off n=>match s.opd x with
  | .agg cs=>if off+n.getD 1<=cs.length then kn (s.put d (part cs off n)) else none
  | _=>none
 | .idx d z x i=>match s.opd x,s.opd i with
  | .lst K xs,.int _ i=>if K.sz=z then if 0<=i then (if i<xs.length then kn (s.put d (.fptr (K.enc (xs.getD i.toNat K.zero)) 0)) else none) else none else none
  | .row id,.int _ i=>match s.st[id]? with
   | some (.rows _ K xs)=>if K.sz=z then if 0<=i then (if i<xs.length then kn (s.put d (.eptr id i.toNat 0)) else none) else none else none
   | some (.frz K xs)=>if K.sz=z then if 0<=i then (if i<xs.length then kn (s.put d (.eptr id i.toNat 0)) else none) else none else none
   | some (.mrow _ K xs)=>if K.sz=z then if 0<=i then (if i<xs.length then kn (s.put d (.eptr id i.toNat 0)) else none) else none else none
   | some (.byt _ xs)=>if (Kd.int .u8).sz=z then if 0<=i then (if i<xs.length then kn (s.put d (.eptr id i.toNat 0)) else none) else none else none
   | _=>none
  | _,_=>none
 | .sidx d x i=>match s.opd x,s.opd i with
  | .str b,.int _ i=>if 0<=i then (if i<b.size then kn (s.put d (.int .u8 (b.data.toList.getD i.toNat 0).toNat)) else none) else none
  | _,_=>none
 | .aidx d n x i=>match s.opd x,s.opd i with
  | .agg cs,.int _ i=>((Kd.int .i64).ofs (cs.map fun c=>[c])).bind fun xs=>if xs.length=n then (if 0<=i then (if i<(n:Int) then kn (s.put d (.int .i64 (xs.getD i.toNat 0))) else none) else none) else none
  | _,_=>none
 | .sl d z x lo hi=>match s.opd x,(match lo with | none=>AV.int .i64 0 | some l=>s.opd l) with
  | .str b,.int _ l=>if z=0 then
   match (match hi with | none=>AV.int .i64 b.size | some h=>s.opd h) with
   | .int _ h=>if 0<=l then (if l<=h then (if h<=b.size then kn (s.put d (.str (b.extract l.toNat h.toNat))) else none) else none) else none
   | _=>none
   else none
  | .lst K xs,.int _ l=>if K.sz=z then
   match (match hi with | none=>AV.int .i64 xs.length | some h=>s.opd h) with
   | .int _ h=>if 0<=l then (if l<=h then (if h<=xs.length then kn (s.put d (.lst K ((xs.take h.toNat).drop l.toNat))) else none) else none) else none
   | _=>none
   else none
  | _,_=>none
 | .mk d t K n=>match s.opd n with
  | .int _ n=>if 0<=n then (if n<=68719476736 then kn ⟨(d,.row s.st.length)::s.fr,s.st++[.rows t K (List.replicate n.toNat K.zero)]⟩ else none) else none
  | _=>none
 | .fn d f caps=>kn (s.put d (.fn f (caps.map s.opd)))
 | .clo d f K x=>match s.opd x with
  | .fptr cs 0=>(K.ofCells cs).bind fun z=>kn (s.put d (.clo f K z))
  | _=>none
 | .fbox d x=>(s.keepAll (s.opd x).cells).bind fun y=>kn (y.2.put d (.fptr y.1 0))
 | .min d x y=>match s.opd x,s.opd y with
  | .int k a,.int k' b=>if k=k' then kn (s.put d (.int k (min a b))) else none
  | _,_=>none
 | .app d e K a b=>match s.opd a with
  | .row id=>s.appR d e K id (s.opd b) kn
  | .irow _ _ _=>match a with
   | .t n=>(s.openAt n).bind fun y=>y.2.appR d e K s.st.length (y.2.opd b) kn
   | _=>none
  | _=>none
 | .apz d e K a b=>match s.opd a with
  | .row id=>match s.st[id]? with
   | some (.rows t K' xs)=>if h:K'=K then if t=e/\K'.plain=true then
     s.list (s.opd b) K fun ys=>if xs.length+ys.length<=68719476736 then kn ⟨(d,.lst K ((h▸xs)++ys))::s.fr.map (Cq [id]),(s.st.map (AH.kill [id])).set id (.frz K ((h▸xs)++ys))⟩ else none
    else none else none
   | _=>none
  | _=>none
 | .len d t x=>match s.opd x with
  | .str b=>if t=true then kn (s.put d (.int .i64 b.size)) else none
  | .nil=>if t=true then none else kn (s.put d (.int .i64 0))
  | .lst _ xs=>if t=true then none else kn (s.put d (.int .i64 xs.length))
  | .row id=>if t=true then none else match s.st[id]? with
   | some (.rows _ _ xs)=>kn (s.put d (.int .i64 xs.length))
   | some (.frz _ xs)=>kn (s.put d (.int .i64 xs.length))
   | some (.mrow _ _ xs)=>kn (s.put d (.int .i64 xs.length))
   | some (.byt _ xs)=>kn (s.put d (.int .i64 xs.length))
   | _=>none
  | .irow id i q=>if t=true then none else match s.st[id]? with
   | some (.rows _ K xs)=>(K.innG (xs.getD i K.zero) q).bind fun r=>kn (s.put d (.int .i64 r.xs.length))
   | some (.mrow _ K xs)=>(K.innG (xs.getD i K.zero) q).bind fun r=>kn (s.put d (.int .i64 r.xs.length))
   | _=>none
  | _=>none
 | .call d f args res=>SP cal kn s d f args res
 | .icall n rd d f args res=>(s.openAt n).bind fun y=>if Az (KV y.2 args) y.1=true then none else if (if rd=true then !Az (KV y.2 args) s.st.length else Az (Us y.2 args) s.st.length)=true then
   SP cal (fun s2=>(s2.closeAt y.1 s.st.length rd).bind kn) y.2 d f args res else none
 | .bld d k f t x y=>match s.opd x with
  | .ptr id 0=>match s.st[id]? with
   | some (.var [.self T,.row j])=>match s.st[j]? with
    | some (.rows t' (.int .u8) xs)=>if t'=t then
      ((cal (B8+f) [.int .i64 k,.int .i64 t,.int .i64 T] []).bind (Cp [])).bind fun _ =>
       if k=2 then (if ZN xs=true then kn ⟨Ur d (.str (NC xs)) (s.fr.map (Cq [j])),(s.st.map (AH.kill [j])).set j .dead⟩ else none)
       else (YT k (s.opd y)).bind fun ys=>if xs.length+ys.length<=68719476736 then
        kn ⟨Ur d .undef (s.fr.map (Cq [j])),((s.st.map (AH.kill [j])).set j (.rows t (.int .u8) (xs++ys))).set id (.var [.self T,.row j])⟩ else none
     else none
    | _=>none
   | _=>none
  | _=>none
 | .stb d t x=>match s.opd x with
  | .str b=>kn ⟨(d,.row s.st.length)::s.fr,s.st++[.byt t (KT b)]⟩
  | _=>none
 | .ext d x i=>match s.opd x with
  | .tup vs=>if i<vs.length then kn (s.put d (vs.getD i .undef)) else none
  | _=>none
def QR {ρ:Type} (cal:Cz) (kn:St->Option ρ) (s:St):List Cj->Option ρ
 | []=>kn s
 | o::os=>CN cal (fun s'=>QR cal kn s' os) s o
end
inductive DT where
 | done
 | take (i:Nat) (g:Option (Nat×Bool)) (ao:Cj) (r:DT)
 | skip (i:Nat) (g:Nat×Bool) (d:Option Nat) (r:DT)
 | only (i:Nat) (g:Option (Nat×Bool)) (ao:Cj) (e:Bool) (fl:List (Nat×Cj)) (r:DT)
 | test (c:Nat) (a b:DT)
 | fork (i:Nat) (ai:Cj) (ri:DT) (j:Nat) (aj:Cj) (rj:DT)
def DT.tk:Nat->List Cj->DT->DT
 | n+1,a::l,r=>tk n l (.take n none a r)
 | _,_,r=>r
def DT.tg (c:Nat) (b:Bool):Nat->List Cj->DT->DT
 | n+1,a::l,r=>tg c b n l (.take n (some (c,b)) a r)
 | _,_,r=>r
def DT.sk (c:Nat) (b:Bool):Nat->Nat->Nat->DT->DT
 | k+1,n+1,d+1,r=>sk c b k n d (.skip n (c,b) (some d) r)
 | _,_,_,r=>r
def Cj.m (d x:Nat):Cj:=.mv d (.t x)
def Cj.l (d x:Nat):Cj:=.load d (.t x) none
def Cj.ls (d x n:Nat):Cj:=.load d (.t x) (some n)
def Cj.f (d x n:Nat):Cj:=.fld d (.t x) n
def Cj.n (d x:Nat):Cj:=.nilc d (.t x)
def Cj.b (d:Nat) (op:BinOp) (x y:Nat):Cj:=.bin d op (.t x) (.t y)
def Cj.cl (d:Nat) (xs:List Nat) (q:Nat×List PK×List Kd):Cj:=.call (some d) q.1 (List.zipWith (fun x k=>(BS.t x,k)) xs q.2.1) q.2.2
def Cj.cx (d:Option Nat) (xs:List BS) (q:Nat×List PK×List Kd):Cj:=.call d q.1 (List.zipWith (fun x k=>(x,k)) xs q.2.1) q.2.2
def Cj.icx (n:Nat) (rd:Bool) (d:Option Nat) (xs:List BS) (q:Nat×List PK×List Kd):Cj:=.icall n rd d q.1 (List.zipWith (fun x k=>(x,k)) xs q.2.1) q.2.2
def Cj.al (d:Nat) (K:Kd):Cj:=.alloc d (K.enc K.zero)
def Cj.bu (d:Nat) (K:Kd) (parts:List (Nat×Nat×BS)):Cj:=.build d (K.enc K.zero) parts
def BS.i (n:Int):BS:=.c (.int .i64 n)
def YU (ex:List (Nat×List Nat)) (i:Nat):List Nat:=match ex.find? (fun (e:Nat×List Nat)=>e.1==i) with
 | some e=>e.2
 | none=>[i-1]
def am (n:Nat) (ex:List (Nat×List Nat)):List (List Nat) :=
 (List.range n).foldl (fun (acc:List (List Nat)) (i:Nat)=>acc++[(List.range i).filter fun k=>(YU ex i).any fun p=>p==k||Az (acc.getD p []) k]) []
noncomputable def ZV {ρ:Type} (a b:Option ρ):Option ρ:=@ite _ (a=b) (Classical.propDecidable _) a none
theorem QS {ρ:Type} {a b:Option ρ} {r:ρ}:ZV a b=some r↔a=some r/\b=some r:=by
 unfold ZV
 split
 ·rename_i e; subst e; exact Iff.intro (fun h=>And.intro h h) (fun h=>And.left h)
 ·rename_i e; exact Iff.intro (fun h=>by cases h) (fun h=>absurd (h.1.trans h.2.symm) e)
def aL (s:St):Option (Nat×Bool)->Bool
 | none=>true
 | some g=>match Cd s.fr g.1 with
  | .bool t=>t==g.2
  | _=>false
def ZW (s:St) (g:Nat×Bool):Bool :=
 match Cd s.fr g.1 with
 | .bool t=>t != g.2
 | .void=>true
 | _=>false
def AV.clear (tch:List Nat):AV->Bool
 | .ptr id _=>!Az tch id
 | .eptr id _ _=>!Az tch id
 | .fptr _ _=>true
 | _=>false
def Cj.notSelf:Cj->Bool
 | .load d (.t x) _=>!(d==x)
 | _=>true
def LR (anc tch:List Nat) (s:St):List (Nat×Nat)->Bool
 | []=>true
 | p::r=>(Az anc p.1||(Cd s.fr p.2).clear tch)&&LR anc tch s r
def ES (ds:List Nat):List (Nat×Nat)->Bool
 | []=>true
 | p::r=>!Az ds p.2&&ES ds r
def PJ (i:Nat) (ao:Cj) (T:List (Nat×Nat)):List (Nat×Nat) :=
 match ao with
 | .load _ (.t x) _=>(i,x)::T
 | _=>T
def D4 (anc:List Nat):List (Nat×Nat)->List (Nat×Nat)
 | []=>[]
 | p::r=>if Az anc p.1=true then D4 anc r else p::D4 anc r
def Cj.isFloat:Cj->Bool
 | .alloc _ _ | .brow .. | .blst .. => true
 | _=>false
def Cj.floatOk (s:St):Cj->Bool
 | .alloc _ _=>true
 | .brow _ _ K ps=>K.plain&&(ps.map s.opd).all AV.firm&&(K.ofs ((ps.map s.opd).map AV.cells)).isSome
 | .blst _ K ps=>(ps.map s.opd).all AV.firm&&(K.ofs ((ps.map s.opd).map AV.cells)).isSome
 | _=>false
def PL (s:St):List Nat->Bool
 | []=>true
 | d::r=>(match Cd s.fr d with | .undef=>true | _=>false)&&PL s r
def PM (s:St) (T:List (Nat×Nat)):List (Nat×Cj)->Bool
 | []=>true
 | f::r=>f.2.floatOk s&&PL s f.2.dsts&&ES f.2.dsts T&&PM s T r
noncomputable def dK {ρ:Type} (cal:Cz) (anc:List (List Nat)) (kn:St->Option ρ):DT->List (Nat×Nat)->St->Option ρ
 | .done,_,s=>kn s
 | .take i g ao r,T,s=>if (aL s g&&ES ao.dsts T&&ao.notSelf)=true then CN cal (fun s'=>dK cal anc kn r (PJ i ao T) s') s ao else none
 | .skip _ g d r,T,s=>if (ZW s g&&ES d.toList T)=true then dK cal anc kn r T ⟨Ur d .void s.fr,s.st⟩ else none
 | .only i g ao e fl r,T,s=>if (aL s g&&ES ao.dsts T&&LR (anc.getD i []) (ao.touch s) s T&&PM s T fl&&(fl.all fun f=>LR (anc.getD f.1 []) [] s T)&&(!e||ao.floatOk s))=true then CN cal (fun s'=>dK cal anc kn r (D4 (anc.getD i []) T) s') s ao else none
 | .test c a b,T,s=>match Cd s.fr c with
  | .bool t=>if t=true then dK cal anc kn a T (s.put c (.bool true)) else dK cal anc kn b T (s.put c (.bool false))
  | _=>none
 | .fork i ai ri j aj rj,T,s=>ZV
  (if (ES ai.dsts T&&LR (anc.getD i []) (ai.touch s) s T)=true then CN cal (fun s'=>dK cal anc kn ri (D4 (anc.getD i []) T) s') s ai else none)
  (if (ES aj.dsts T&&LR (anc.getD j []) (aj.touch s) s T)=true then CN cal (fun s'=>dK cal anc kn rj (D4 (anc.getD j []) T) s') s aj else none)
def AV.older1 (n:Nat):AV->AV
 | .row i=>if i<n then .row i else .undef
 | .eptr i j o=>if i<n then .eptr i j o else .undef
 | .ptr i o=>if i<n then .ptr i o else .undef
 | .irow _ _ _=>.undef
 | .agg _=>.undef
 | .tup _=>.undef
 | v=>v
def AV.older (n:Nat):AV->AV
 | .agg cs=>.agg (cs.map (AV.older1 n))
 | .tup _=>.undef
 | v=>v.older1 n
def AV.olderC (n:Nat):AV->AV
 | .row i=>if i<n then .row i else .undef
 | c=>c
def AH.older (n:Nat):AH->AH
 | .var cs=>.var (cs.map (AV.olderC n))
 | b=>b
def St.cut (s:St) (live:List Nat) (n:Nat):St:=⟨live.map fun t=>(t,(Cd s.fr t).older n),(s.st.take n).map (AH.older n)⟩
def B9 (s:St):List Nat->List (Nat×Nat)
 | []=>[]
 | t::r=>match Cd s.fr t with
  | .row i=>(t,i)::B9 s r
  | _=>B9 s r
def St.home (s:St) (n t i:Nat):St :=
 match Cd s.fr t with
 | .row k=>if n<=k then (match s.intoRow i (.row k) with
  | some x=>x.2.1.put t (.row i)
  | none=>s) else s
 | _=>s
def St.homes (n:Nat):List (Nat×Nat)->St->St
 | [],s=>s
 | p::r,s=>St.homes n r (s.home n p.1 p.2)
def St.cutH (s:St) (hs:List (Nat×Nat)) (live:List Nat) (n:Nat):St:=(St.homes n hs s).cut live n
inductive AO where
 | skip
 | region (ops:List Cj) (live:List Nat)
 | draw (anc:List (List Nat)) (t:DT) (live:List Nat)
 | seq (a b:AO)
 | seqc (live:List Nat) (a b:AO)
 | cond (c:BS) (a b:AO)
 | block (id:Nat) (live:List Nat) (body:AO)
 | loop (live:List Nat) (body:AO)
 | exit (id:Nat)
 | ret
def G1 {ρ:Type}:Nat->((St->Option ρ)->St->Option ρ)->St->Option ρ
 | 0,_,_=>none
 | k+1,F,s=>F (fun s'=>G1 k F s') s
noncomputable def D1 {ρ:Type} (cal:Cz) (k:Nat):AO->(kn kr:St->Option ρ)->(ke:Nat->St->Option ρ)->St->Option ρ
 | .skip,kn,_,_,s=>kn s
 | .region ops live,kn,_,_,s=>QR cal (fun s'=>kn ⟨live.map fun t=>(t,Cd s'.fr t),s'.st⟩) s ops
 | .draw anc t live,kn,_,_,s=>dK cal anc (fun s'=>kn ⟨live.map fun t=>(t,Cd s'.fr t),s'.st⟩) t [] s
 | .seqc live a b,kn,kr,ke,s=>D1 cal k a (fun s'=>D1 cal k b kn kr ke (s'.cutH (B9 s live) live s.st.length)) kr ke s
 | .seq a b,kn,kr,ke,s=>D1 cal k a (fun s'=>D1 cal k b kn kr ke s') kr ke s
 | .cond c a b,kn,kr,ke,s=>match s.opd c with
  | .bool t=>if t=true then D1 cal k a kn kr ke s else D1 cal k b kn kr ke s
  | _=>none
 | .block id live body,kn,kr,ke,s=>D1 cal k body (fun s'=>kn (s'.cutH (B9 s live) live s.st.length)) kr (fun i s'=>if i=id then kn (s'.cutH (B9 s live) live s.st.length) else ke i s') s
 | .loop live body,_,kr,ke,s=>G1 k (fun go s'=>D1 cal k body (fun s''=>go (s''.cutH (B9 s live) live s.st.length)) kr ke s') (s.cut live s.st.length)
 | .exit id,_,_,ke,s=>ke id s
 | .ret,_,kr,_,s=>kr s
structure YV where
 t:Nat
 cell:Bool
 K:Kd
structure CU where
 params:List PK
 res:List YV
 body:AO
def St.shutAll (s:St) (tk:List Nat):List Kd->List AV->Option (List AV×List Nat×St)
 | [],[]=>some ([],tk,s)
 | k::ks,v::vs=>match v with
  | .row i=>if Az tk i=true then none else match k with
   | .own _ _=>match s.st[i]? with
    | some (.rows t e xs)=>(s.shutAll (i::tk) ks vs).bind fun y=>some (.new t e xs::y.1,y.2)
    | _=>none
   | _=>(s.keep (.row i)).bind fun x=>(x.2.shutAll tk ks vs).bind fun y=>some (x.1::y.1,y.2)
  | .ptr i 0=>if Az tk i=true then none else match k with
   | .ref K=>match s.st[i]? with
    | some (.var cs)=>(Gn K.leaves cs).bind fun cs'=>(s.shutAll (i::tk) ks vs).bind fun y=>some (.ref cs'::y.1,y.2)
    | _=>none
   | _=>none
  | v=>(v.norm k).bind fun a=>(s.shutAll tk ks vs).bind fun y=>some (a::y.1,y.2)
 | _,_=>none
def St.resCells (s:St) (r:YV):Option (List AV) :=
 if r.cell=true then (s.behind (Cd s.fr r.t)).bind fun y=>some ((y.1.drop y.2).take r.K.sz)
 else if (AV.fits r.K (Cd s.fr r.t)&&(Cd s.fr r.t).full)=true then some (Cd s.fr r.t).cells else none
def St.result (s:St) (tk:List Nat):List YV->Option (List AV×List Nat×St)
 | []=>some ([],tk,s)
 | r::rs=>(s.resCells r).bind fun cs=>(s.shutAll tk r.K.leaves cs).bind fun y=>(r.K.ofCells y.1).bind fun x=>(y.2.2.result y.2.1 rs).bind fun z=>some (r.K.av x::z.1,z.2)
def Kd.noRef:Kd->Bool
 | .pair a b=>a.noRef&&b.noRef
 | .ref _=>false
 | _=>true
def St.shutBoxes (s:St) (tk:List Nat):List (Nat×Kd)->Option (List AV×List Nat×St)
 | []=>some ([],tk,s)
 | (b,K)::bs=>match s.st[b]? with
  | some (.mrow t e xs)=>if Kd.own t e=K then (s.shutBoxes tk bs).bind fun z=>some (.new t e xs::z.1,z.2) else none
  | some (.var cs)=>if (K.noRef&&!K.isOwn)=true then (s.shutAll tk K.leaves cs).bind fun y=>(K.ofCells y.1).bind fun x=>(y.2.2.shutBoxes y.2.1 bs).bind fun z=>some (K.av x::z.1,z.2) else none
  | _=>none
def CV:List PK->Nat->List (Nat×Kd)
 | [],_=>[]
 | .val _::r,j | .ept::r,j | .bor _::r,j | .mov _::r,j | .movS _::r,j | .cap _ _::r,j | .cap0 _::r,j=>CV r j
 | .ptr K::r,j=>(j,K)::CV r (j+1)
 | .mut K::r,j=>RH K.owns j++CV r (j+K.owns.length)
def CU.outs (fn:CU):List Kd:=fn.res.map (·.K)++(CV fn.params 0).map (·.2)
def AW (fn:CU) (s:St):Option (RT fn.outs) :=
 (s.result (List.range (CV fn.params 0).length) fn.res).bind fun y=>(y.2.2.shutBoxes y.2.1 (CV fn.params 0)).bind fun b=>Cp fn.outs (y.1++b.1)
def IZ:Nat->List AV->List (Nat×AV)
 | _,[]=>[]
 | i,v::vs=>(i,v)::IZ (i+1) vs
noncomputable def WC (cal:Cz) (k:Nat) (fn:CU) (args bs:List AV):Option (RT fn.outs) :=
 D1 cal k fn.body (AW fn) (AW fn) (fun _ _=>none) ⟨IZ 0 (Bv (C6 bs) args),BK bs args⟩
noncomputable def PN (NT:Nat->Option CU) (DL:Cz):Nat->Cz
 | 0,_,_,_=>none
 | k+1,f,args,bs=>match NT f with
  | some fn=>if args.length=fn.params.length/\bs.length=(CV fn.params 0).length then (WC (PN NT DL k) k fn args bs).map (B6 fn.outs) else none
  | none=>DL f args bs

abbrev HP:=Nat->Option Obj
def HP.le (H H':HP):Prop:=∀ b o,H b=some o->H' b=some o
theorem HP.le_refl (H:HP):H.le H:=fun _ _ h=>h
theorem HP.le_trans {A B C:HP} (h:A.le B) (g:B.le C):A.le C:=fun b o e=>g b o (h b o e)
def MC {α:Type} (R:α->List Value->Prop) (sz:Nat) (H:HP) (xs:List α) (v:Value):Prop :=
 ∃ a cap,v=.slice a xs.length cap/\xs.length<=cap/\(xs=[]\/∃ b off c el fz,a=some ⟨b,off,none⟩/\H b=some (.cells c el fz) /\
  ∀ j x,xs[j]? = some x->∃ cs,R x cs/\cs.length=sz/\∀ i u,cs[i]? = some u->c[off+j*sz+i]? = some u)
def Vk (H:HP) (f:Nat) (R:List Value->Prop) (v:Value):Prop :=
 ∃ b o c el fz,v=.func (.func f) #[] #[.pointer (some ⟨b,o,none⟩)]/\H b=some (.cells c el fz)/\∃ vs,R vs/\∀ (j:Nat) u,vs[j]? = some u->c[o+j]? = some u
theorem QT {H H':HP} (hH:H.le H') {f:Nat} {R R':List Value->Prop} {v:Value} (hR:∀ cs,R cs->R' cs) (h:Vk H f R v):Vk H' f R' v:=by
 obtain ⟨b,o,c,el,fz,e,hb,vs,hv,hc⟩:=h
 exact ⟨b,o,c,el,fz,e,hH _ _ hb,vs,hR _ hv,hc⟩
def C4 (H:HP):(K:Kd)->K.T->List Value->Prop
 | .int k,n,cs=>cs=[.int k n]
 | .bool,b,cs=>cs=[.bool b]
 | .str,s,cs=>cs=[.string s]
 | .slice e,xs,cs=>∃ v,cs=[v]/\MC (C4 H e) e.sz H xs v
 | .pair a b,x,cs=>∃ c1 c2,cs=c1++c2/\C4 H a x.1 c1/\C4 H b x.2 c2
 | .own _ _,_,_=>False
 | .ref _,_,_=>False
 | .fun f,_,cs=>cs=[.func (.func f) #[] #[]]
 | .clo f K,x,cs=>∃ v,cs=[v]/\Vk H f (C4 H K x) v
theorem C4.length {H:HP}:∀ {K:Kd} {x:K.T} {cs:List Value},C4 H K x cs->cs.length=K.sz
 | .int _,_,_,h=>by cases h; rfl
 | .bool,_,_,h=>by cases h; rfl
 | .str,_,_,h=>by cases h; rfl
 | .slice _,_,_,⟨_,h,_⟩=>by cases h; rfl
 | .pair _ _,_,_,⟨_,_,h,h1,h2⟩=>by subst h; simp [Kd.sz,C4.length h1,C4.length h2]
 | .own _ _,_,_,h=>h.elim
 | .ref _,_,_,h=>h.elim
 | .fun _,_,_,h=>by cases h; rfl
 | .clo _ _,_,_,⟨_,h,_⟩=>by cases h; rfl
theorem GY {α:Type} {R R':α->List Value->Prop} {sz:Nat} {H H':HP} {xs:List α} {v:Value} (hR:∀ x cs,R x cs->R' x cs) (hH:H.le H')
  (h:MC R sz H xs v):MC R' sz H' xs v:=by
 obtain ⟨a,cap,e,hc,h⟩:=h
 refine ⟨a,cap,e,hc,?_⟩
 rcases h with h | ⟨b,off,c,el,fz,ea,hb,hr⟩
 ·exact .inl h
 ·refine .inr ⟨b,off,c,el,fz,ea,hH _ _ hb,fun j x hx=>?_⟩
  obtain ⟨cs,h1,h2,h3⟩:=hr j x hx
  exact ⟨cs,hR _ _ h1,h2,h3⟩
theorem C4.mono {H H':HP} (hH:H.le H'):∀ {K:Kd} {x:K.T} {cs:List Value},C4 H K x cs->C4 H' K x cs
 | .int _,_,_,h=>h
 | .bool,_,_,h=>h
 | .str,_,_,h=>h
 | .slice _,_,_,⟨v,h,hr⟩=>⟨v,h,GY (fun _ _ h=>C4.mono hH h) hH hr⟩
 | .pair _ _,_,_,⟨c1,c2,h,h1,h2⟩=>⟨c1,c2,h,C4.mono hH h1,C4.mono hH h2⟩
 | .own _ _,_,_,h=>h.elim
 | .ref _,_,_,h=>h.elim
 | .fun _,_,_,h=>h
 | .clo _ _,_,_,⟨v,h,hr⟩=>⟨v,h,QT hH (fun _ h=>C4.mono hH h) hr⟩
def VF (H:HP):AV->Value->Prop
 | .int k n,v=>v=.int k n
 | .bool b,v=>v=.bool b
 | .str s,v=>v=.string s
 | .nil,v=>v=.slice none 0 0
 | .lst K xs,v=>MC (C4 H K) K.sz H xs v
 | .fn f caps,v=>caps=[]/\v=.func (.func f) #[] #[]
 | .clo f K x,v=>Vk H f (C4 H K x) v
 | _,_=>False
theorem VF.mono {H H':HP} (hH:H.le H') {a:AV} {v:Value} (h:VF H a v):VF H' a v:=by
 cases a<;>simp only [VF] at h ⊢ <;> first | exact h | exact GY (fun _ _ h=>C4.mono hH h) hH h | exact QT hH (fun _ h=>C4.mono hH h) h
def Ed (H:HP):List AV->List Value->Prop
 | [],vs=>vs=[]
 | a::aw,vs=>∃ v r,vs=v::r/\VF H a v/\Ed H aw r
theorem Ed.mono {H H':HP} (hH:H.le H'):∀ {aw:List AV} {vs:List Value},Ed H aw vs->Ed H' aw vs
 | [],_,h=>h
 | _::_,_,⟨v,r,e,h,hr⟩=>⟨v,r,e,VF.mono hH h,Ed.mono hH hr⟩
theorem Ed.length {H:HP}:∀ {aw:List AV} {vs:List Value},Ed H aw vs->vs.length=aw.length
 | [],_,h=>by cases h; rfl
 | _::_,_,⟨v,r,e,_,hr⟩=>by subst e; simp [Ed.length hr]
theorem Ed.append {H:HP}:∀ {aw bs:List AV} {vs ws:List Value},Ed H aw vs->Ed H bs ws->Ed H (aw++bs) (vs++ws)
 | [],_,_,_,h,g=>by cases h; exact g
 | _::_,_,_,_,⟨v,r,e,h,hr⟩,g=>by subst e; exact ⟨v,_,rfl,h,Ed.append hr g⟩
theorem Ed.get {H:HP}:∀ {aw:List AV} {vs:List Value},Ed H aw vs->∀ (j:Nat) (a:AV),aw[j]? = some a->∃ v,vs[j]? = some v/\VF H a v
 | [],_,_,j,a,hj=>by simp at hj
 | x::aw,_,⟨v,r,e,h,hr⟩,0,a,hj=>by subst e; simp at hj; subst hj; exact ⟨v,rfl,h⟩
 | x::aw,_,⟨v,r,e,h,hr⟩,j+1,a,hj=>by subst e; simp at hj; simpa using Ed.get hr j a hj
theorem Ed.drop {H:HP}:∀ {aw:List AV} {vs:List Value} (n:Nat),Ed H aw vs->Ed H (aw.drop n) (vs.drop n)
 | aw,vs,0,h=>by simpa using h
 | [],vs,n+1,h=>by cases h; simp [Ed]
 | _::_,_,n+1,⟨v,r,e,h,hr⟩=>by subst e; simpa using Ed.drop n hr
theorem Ed.take {H:HP}:∀ {aw:List AV} {vs:List Value} (n:Nat),Ed H aw vs->Ed H (aw.take n) (vs.take n)
 | aw,vs,0,h=>by simp [Ed]
 | [],vs,n+1,h=>by cases h; simp [Ed]
 | _::_,_,n+1,⟨v,r,e,h,hr⟩=>by subst e; exact ⟨v,_,by simp,h,Ed.take n hr⟩
theorem Ed.set {H:HP}:∀ {aw:List AV} {vs:List Value} (n:Nat) {a:AV} {v:Value},Ed H aw vs->VF H a v->Ed H (aw.set n a) (vs.set n v)
 | [],vs,n,a,v,h,_=>by cases h; simp [Ed]
 | _::_,_,0,a,v,⟨v0,r,e,_,hr⟩,g=>by subst e; exact ⟨v,r,rfl,g,hr⟩
 | _::_,_,n+1,a,v,⟨v0,r,e,h,hr⟩,g=>by subst e; exact ⟨v0,_,rfl,h,Ed.set n hr g⟩
theorem Ed.of_rep {H:HP}:∀ {K:Kd} {x:K.T} {cs:List Value},C4 H K x cs->Ed H (K.enc x) cs
 | .int _,_,_,h=>⟨_,_,h,rfl,rfl⟩
 | .bool,_,_,h=>⟨_,_,h,rfl,rfl⟩
 | .str,_,_,h=>⟨_,_,h,rfl,rfl⟩
 | .slice _,_,_,⟨v,h,hr⟩=>⟨_,_,h,hr,rfl⟩
 | .pair _ _,_,_,⟨_,_,h,h1,h2⟩=>by subst h; exact Ed.append (Ed.of_rep h1) (Ed.of_rep h2)
 | .own _ _,_,_,h=>h.elim
 | .ref _,_,_,h=>h.elim
 | .fun _,_,_,h=>⟨_,_,h,⟨rfl,rfl⟩,rfl⟩
 | .clo _ _,_,_,⟨v,h,hr⟩=>⟨_,_,h,hr,rfl⟩
theorem F4 {α:Type} {R:α->List Value->Prop} {sz:Nat} {H:HP}:MC R sz H ([]:List α) (.slice none 0 0):=⟨none,0,rfl,Nat.le_refl _,.inl rfl⟩
theorem Dd {H:HP}:∀ (K:Kd) {aw:List AV} {vs:List Value} {x:K.T} {r:List AV},Ed H aw vs->K.dec aw=some (x,r) ->
  ∃ c1 c2,vs=c1++c2/\C4 H K x c1/\Ed H r c2:=by
 intro K
 induction K with
 | int k =>
  intro aw vs x r h hd
  cases aw with
  | nil=>simp [Kd.dec] at hd
  | cons a aw =>
   obtain ⟨v,w,e,h1,h2⟩:=h
   cases a<;>simp [Kd.dec] at hd
   obtain ⟨rfl,rfl,rfl⟩:=hd
   simp only [VF] at h1
   exact ⟨[v],w,by simp [e],by simp [C4,h1],h2⟩
 | bool =>
  intro aw vs x r h hd
  cases aw with
  | nil=>simp [Kd.dec] at hd
  | cons a aw =>
   obtain ⟨v,w,e,h1,h2⟩:=h
   cases a<;>simp [Kd.dec] at hd
   obtain ⟨rfl,rfl⟩:=hd
   simp only [VF] at h1
   exact ⟨[v],w,by simp [e],by simp [C4,h1],h2⟩
 | str =>
  intro aw vs x r h hd
  cases aw with
  | nil=>simp [Kd.dec] at hd
  | cons a aw =>
   obtain ⟨v,w,e,h1,h2⟩:=h
   cases a<;>simp [Kd.dec] at hd
   obtain ⟨rfl,rfl⟩:=hd
   simp only [VF] at h1
   exact ⟨[v],w,by simp [e],by simp [C4,h1],h2⟩
 | slice e ih =>
  intro aw vs x r h hd
  cases aw with
  | nil=>simp [Kd.dec] at hd
  | cons a aw =>
   obtain ⟨v,w,ev,h1,h2⟩:=h
   cases a with
   | nil =>
    simp only [Kd.dec,Af,Prod.mk.injEq] at hd
    obtain ⟨rfl,rfl⟩:=hd
    simp only [VF] at h1
    exact ⟨[v],w,by simp [ev],⟨v,rfl,by rw [h1]; exact F4⟩,h2⟩
   | lst K xs =>
    simp only [Kd.dec] at hd
    split at hd
    ·rename_i hk
     subst hk
     simp only [Af,Prod.mk.injEq] at hd
     obtain ⟨rfl,rfl⟩:=hd
     exact ⟨[v],w,by simp [ev],⟨v,rfl,h1⟩,h2⟩
    ·cases hd
   | _=>simp [Kd.dec] at hd
 | pair a b iha ihb =>
  intro aw vs x r h hd
  simp only [Kd.dec] at hd
  cases hx:a.dec aw with
  | none=>simp [hx] at hd
  | some xa =>
   obtain ⟨xa,ra⟩:=xa
   simp only [hx,Z] at hd
   cases hy:b.dec ra with
   | none=>simp [hy] at hd
   | some yb =>
    obtain ⟨yb,rb⟩:=yb
    simp only [hy,Z,Af,Prod.mk.injEq] at hd
    obtain ⟨rfl,rfl⟩:=hd
    obtain ⟨c1,c2,e1,r1,h1⟩:=iha h hx
    obtain ⟨d1,d2,e2,r2,h2⟩:=ihb h1 hy
    exact ⟨c1++d1,d2,by simp [e1,e2],⟨c1,d1,rfl,r1,r2⟩,h2⟩
 | own t e ih =>
  intro aw vs x r h hd
  cases aw with
  | nil=>simp [Kd.dec] at hd
  | cons a aw =>
   obtain ⟨v,w,ev,h1,h2⟩:=h
   cases a<;>first | exact h1.elim | (simp [Kd.dec] at hd)
 | ref K ih =>
  intro aw vs x r h hd
  cases aw with
  | nil=>simp [Kd.dec] at hd
  | cons a aw =>
   obtain ⟨v,w,ev,h1,h2⟩:=h
   cases a<;>first | exact h1.elim | (simp [Kd.dec] at hd)
 | «fun» f =>
  intro aw vs x r h hd
  cases aw with
  | nil=>simp [Kd.dec] at hd
  | cons a aw =>
   obtain ⟨v,w,ev,h1,h2⟩:=h
   cases a with
   | fn f' caps =>
    cases caps with
    | nil =>
     simp only [Kd.dec] at hd
     split at hd
     ·rename_i e
      subst e
      cases hd
      obtain ⟨_,rfl⟩:=h1
      exact ⟨[_],w,by simp [ev],rfl,h2⟩
     ·cases hd
    | cons _ _=>simp [Kd.dec] at hd
   | _=>simp [Kd.dec] at hd
 | clo f K ih =>
  intro aw vs x r h hd
  cases aw with
  | nil=>simp [Kd.dec] at hd
  | cons a aw =>
   obtain ⟨v,w,ev,h1,h2⟩:=h
   cases a with
   | clo f' K' y =>
    simp only [Kd.dec] at hd
    split at hd
    ·rename_i e
     subst e
     split at hd
     ·rename_i hk
      subst hk
      simp only [Af,Prod.mk.injEq] at hd
      obtain ⟨rfl,rfl⟩:=hd
      exact ⟨[v],w,by simp [ev],⟨v,rfl,h1⟩,h2⟩
     ·cases hd
    ·cases hd
   | _=>simp [Kd.dec] at hd

abbrev BF:=Nat->Value
def Rc (h:Value):List Value->Value
 | []=>h
 | u::us=>.tuple (h::u::us).toArray
def hdr:Value->Value
 | .tuple vs=>vs.toList.headD .nilIface
 | v=>v
def Wn:Value->Nat->Option Value
 | .tuple vs,n=>vs.toList[n+1]?
 | _,_=>none
theorem D5 {h:Value} {l:List Value} (hn:∀ vs,h≠.tuple vs):hdr (Rc h l)=h:=by
 cases l with
 | nil=>cases h<;>first | rfl | exact (hn _ rfl).elim
 | cons u us=>rfl
theorem XQ {h:Value} {l:List Value} {n:Nat} {u:Value} (hl:l[n]? = some u):Wn (Rc h l) n=some u:=by
 cases l with
 | nil=>simp at hl
 | cons a l=>simpa [Rc,Wn] using hl
theorem XR {h:Value} {l:List Value} {n:Nat} {u:Value} (hn:∀ vs,h≠.tuple vs) (hl:Wn (Rc h l) n=some u):l[n]? = some u:=by
 cases l with
 | nil=>cases h<;>first | (simp [Rc,Wn] at hl; done) | exact (hn _ rfl).elim
 | cons a l=>simpa [Rc,Wn] using hl
def AE (st:List AH) (id:Nat):Option (Kd×Nat) :=
 match st[id]? with
 | some (.rows _ K xs)=>some (K,xs.length)
 | some (.frz K xs)=>some (K,xs.length)
 | some (.mrow _ K xs)=>some (K,xs.length)
 | some (.byt _ xs)=>some (.int .u8,xs.length)
 | some (.hole _ _ K xs _ _)=>some (K,xs.length)
 | _=>none
def AH.hold:AH->Bool
 | .var _=>true
 | .mrow _ _ _=>true
 | .hole m _ _ _ _ _=>m
 | _=>false
def AL (st:List AH) (id:Nat):Bool :=
 match st[id]? with
 | some b=>b.hold
 | _=>false
def AS (st:List AH) (id:Nat):Bool :=
 match st[id]? with
 | some (.var _)=>true
 | _=>false
def AX {α β:Type} (R:α->β->Prop):List α->List β->Prop
 | [],vs=>vs=[]
 | a::aw,vs=>∃ v r,vs=v::r/\R a v/\AX R aw r
theorem AX.imp {α β:Type} {R S:α->β->Prop} (h:∀ a v,R a v->S a v):∀ {aw:List α} {vs:List β},AX R aw vs->AX S aw vs
 | [],_,e=>e
 | _::_,_,⟨v,r,e,g,hr⟩=>⟨v,r,e,h _ _ g,AX.imp h hr⟩
theorem AX.impM {α β:Type} {R S:α->β->Prop}:∀ {aw:List α} {vs:List β},(∀ a∈aw,∀ v,R a v->S a v)->AX R aw vs->AX S aw vs
 | [],_,_,e=>e
 | a::aw,_,h,⟨v,r,e,g,hr⟩=>⟨v,r,e,h a (by simp) _ g,AX.impM (fun b hb=>h b (by simp [hb])) hr⟩
theorem AX.map {α β:Type} {R S:α->β->Prop} {f:α->α} (h:∀ a v,R a v->S (f a) v):∀ {aw:List α} {vs:List β},AX R aw vs->AX S (aw.map f) vs
 | [],_,e=>e
 | _::_,_,⟨v,r,e,g,hr⟩=>⟨v,r,e,h _ _ g,AX.map h hr⟩
theorem AX.length {α β:Type} {R:α->β->Prop}:∀ {aw:List α} {vs:List β},AX R aw vs->vs.length=aw.length
 | [],_,h=>by cases h; rfl
 | _::_,_,⟨v,r,e,_,hr⟩=>by subst e; simp [AX.length hr]
theorem AX.get {α β:Type} {R:α->β->Prop}:∀ {aw:List α} {vs:List β},AX R aw vs->∀ (j:Nat) (a:α),aw[j]? = some a->∃ v,vs[j]? = some v/\R a v
 | [],_,_,j,a,hj=>by simp at hj
 | x::aw,_,⟨v,r,e,h,hr⟩,0,a,hj=>by subst e; simp at hj; subst hj; exact ⟨v,rfl,h⟩
 | x::aw,_,⟨v,r,e,h,hr⟩,j+1,a,hj=>by subst e; simp at hj; simpa using AX.get hr j a hj
theorem Jn {α β:Type} {R:α->β->Prop}:∀ {aw:List α} {vs:List β},vs.length=aw.length->(∀ (j:Nat) (a:α) (v:β),aw[j]? = some a->vs[j]? = some v->R a v)->AX R aw vs
 | [],[],_,_=>rfl
 | [],_::_,h,_=>by simp at h
 | _::_,[],h,_=>by simp at h
 | a::aw,v::vs,h,g=>⟨v,vs,rfl,g 0 a v rfl rfl,Jn (by simpa using h) fun j a v h1 h2=>g (j+1) a v (by simpa using h1) (by simpa using h2)⟩
theorem AX.mem {α β:Type} {R:α->β->Prop}:∀ {aw:List α} {vs:List β},AX R aw vs->∀ (j:Nat) (v:β),vs[j]? = some v->∃ a,aw[j]? = some a/\R a v
 | [],_,h,j,v,hj=>by cases h; simp at hj
 | x::aw,_,⟨v',r,e,h,hr⟩,0,v,hj=>by subst e; simp at hj; subst hj; exact ⟨x,rfl,h⟩
 | x::aw,_,⟨v',r,e,h,hr⟩,j+1,v,hj=>by subst e; simp at hj; simpa using AX.mem hr j v hj
theorem AX.at {α β:Type} {R:α->β->Prop} {aw:List α} {vs:List β} (h:AX R aw vs) {j:Nat} {a:α} {v:β} (ha:aw[j]? = some a) (hv:vs[j]? = some v):R a v:=by
 obtain ⟨v',h1,h2⟩:=h.get j a ha
 rw [hv] at h1
 cases h1
 exact h2
theorem AX.drop {α β:Type} {R:α->β->Prop}:∀ {aw:List α} {vs:List β} (n:Nat),AX R aw vs->AX R (aw.drop n) (vs.drop n)
 | aw,vs,0,h=>by simpa using h
 | [],vs,n+1,h=>by cases h; simp [AX]
 | _::_,_,n+1,⟨v,r,e,h,hr⟩=>by subst e; simpa using AX.drop n hr
theorem AX.take {α β:Type} {R:α->β->Prop}:∀ {aw:List α} {vs:List β} (n:Nat),AX R aw vs->AX R (aw.take n) (vs.take n)
 | aw,vs,0,h=>by simp [AX]
 | [],vs,n+1,h=>by cases h; simp [AX]
 | _::_,_,n+1,⟨v,r,e,h,hr⟩=>by subst e; exact ⟨v,_,by simp,h,AX.take n hr⟩
theorem AX.append {α β:Type} {R:α->β->Prop}:∀ {aw bs:List α} {vs ws:List β},AX R aw vs->AX R bs ws->AX R (aw++bs) (vs++ws)
 | [],_,_,_,h,g=>by cases h; exact g
 | _::_,_,_,_,⟨v,r,e,h,hr⟩,g=>by subst e; exact ⟨v,_,rfl,h,AX.append hr g⟩
theorem EX {H:HP}:∀ {aw:List AV} {vs:List Value},Ed H aw vs↔AX (VF H) aw vs
 | [],_=>Iff.rfl
 | _::_,_=>⟨fun ⟨v,r,e,h,hr⟩=>⟨v,r,e,h,EX.1 hr⟩,fun ⟨v,r,e,h,hr⟩=>⟨v,r,e,h,EX.2 hr⟩⟩
def VC (H:HP) (φ:BF) (st:List AH):AV->Value->Prop
 | .undef,_=>True
 | .void,v=>v=Go.undef
 | .was _,_=>True
 | .self _,_=>True
 | .row id,v=>v=hdr (φ id)/\(AE st id).isSome=true
 | .ptr id off,v=>AS st id=true/\∃ b,hdr (φ id)=.pointer (some ⟨b,0,none⟩)/\v=.pointer (some ⟨b,off,none⟩)
 | .eptr id i off,v=>∃ b n cap K,AE st id=some (K,n)/\i<n/\hdr (φ id)=.slice (some ⟨b,0,none⟩) n cap/\v=.pointer (some ⟨b,i*K.sz+off,none⟩)
 | .irow id i q,v=>∃ n K,AE st id=some (K,n)/\i<n/\q<K.nown/\Wn (φ id) (i*K.nown+q)=some v
 | .fptr cs off,v=>∃ b o c el fz,v=.pointer (some ⟨b,o+off,none⟩)/\H b=some (.cells c el fz)/\∃ vs,Ed H cs vs/\∀ j u,vs[j]? = some u->c[o+j]? = some u
 | a,v=>VF H a v
def VE (H:HP):AV->Value->Prop
 | .agg cs,v=>∃ arr,v=.agg arr/\Ed H cs arr.toList
 | a,v=>VF H a v
def VB (H:HP) (φ:BF) (st:List AH):AV->Value->Prop
 | .agg cs,v=>∃ arr,v=.agg arr/\AX (VC H φ st) cs arr.toList
 | a,v=>VC H φ st a v
def VA (H:HP) (φ:BF) (st:List AH):AV->Value->Prop
 | .tup vs,v=>∃ arr,v=.tuple arr/\AX (VB H φ st) vs arr.toList
 | a,v=>VB H φ st a v
def VW (H:HP) (p:Value) (el:TypeId):AV->Value->Prop
 | .row _,_=>True
 | .self T,v=>el=T/\(v=.pointer none\/v=p)
 | .was _,_=>True
 | .undef,_=>True
 | a,v=>VF H a v
def Ca (H:HP) (φ:BF) (st:List AH) (fr:List (Nat×AV)) (tmps:Array Value):Prop :=
 ∀ t,VA H φ st (Cd fr t) (tmps.getD t undef)
def Dc:Value->Option Nat
 | .pointer (some a)=>some a.block
 | .slice (some a) _ _=>some a.block
 | _=>none
def BQ:Value->Nat->Prop
 | .pointer (some a),b=>a.block=b
 | .slice (some a) _ _,b=>a.block=b
 | .tuple vs,b=>∃ v∈vs.toList,Dc v=some b
 | _,_=>False
instance (v:Value) (b:Nat):Decidable (BQ v b):=by unfold BQ; split<;>infer_instance
theorem BQ.of {v:Value} {b:Nat} (h:Dc v=some b):BQ v b:=by
 unfold Dc at h
 split at h
 ·exact Option.some.inj h
 ·exact Option.some.inj h
 ·cases h
theorem BQ.flat {v:Value} {b:Nat} (hv:∀ vs,v≠.tuple vs) (h:BQ v b):Dc v=some b:=by
 unfold BQ at h
 split at h
 ·rw [<- h]; rfl
 ·rw [<- h]; rfl
 ·exact (hv _ rfl).elim
 ·exact h.elim
def AH.live:AH->Bool
 | .var _=>true
 | .rows _ _ _=>true
 | .mrow _ _ _=>true
 | .byt _ _=>true
 | .hole _ _ _ _ _ _=>true
 | _=>false
def CI (H:HP) (K:Kd) (xs:List K.T) (flat:List Value):Prop :=
 ∀ j x,xs[j]? = some x->C4 H K x ((flat.drop (j*K.sz)).take K.sz)
def Ut (w:World) (t:TypeId) (v:Value) (xs:List Int):Prop :=
 ∃ (g cap:Nat) (cur:Array Value) (fz:Nat×Nat),v=.slice (some ⟨g,0,none⟩) xs.length cap/\w.heap[g]? = some (.cells cur t fz)/\xs.length<=fz.1/\xs.length<=cap/\∀ (j:Nat) (x:Int),xs[j]? = some x->cur[j]? = some (Value.int .u8 x)
def Cf (H:HP) (w:World):(Nat->Bool)->(K:Kd)->K.T->List Value->List Value->Prop
 | hl,.pair a b,x,cs,vs=>∃ c1 c2 v1 v2,cs=c1++c2/\vs=v1++v2/\Cf H w hl a x.1 c1 v1/\Cf H w (fun n=>hl (n+a.nown)) b x.2 c2 v2
 | hl,.own t e,xs,cs,vs=>∃ v,cs=[v]/\v.oneCell'=true/\if hl 0=true then vs=[.tuple #[v]] else vs=[v]/\∃ flat,w.ownsRow 0 t e.sz v xs.length flat/\CI H e xs flat
 | _,K,x,cs,vs=>vs=[]/\C4 H K x cs
def C7:Nat->Nat->Bool:=fun _ _=>false
def E0 (i q:Nat):Nat->Nat->Bool:=fun j n=>j==i&&n==q
def Aj (H:HP) (w:World) (hl:Nat->Nat->Bool) (v:Value) (t:TypeId) (K:Kd) (xs:List K.T):Prop :=
 ∃ (h:Value) (flat:List Value) (vss:List (List Value)),v=Rc h vss.flatten/\w.ownsRow 0 t K.sz h xs.length flat/\vss.length=xs.length /\
  ((h::vss.flatten).filterMap Dc).Nodup/\∀ (j:Nat) x vs,xs[j]? = some x->vss[j]? = some vs->Cf H w (hl j) K x ((flat.drop (j*K.sz)).take K.sz) vs
def Ee (H:HP) (w:World) (v:Value):AH->Prop
 | .var cs=>∃ b c el,v=.pointer (some ⟨b,0,none⟩)/\w.heap[b]? = some (.cells c el (0,0))/\AX (VW H v el) cs c.toList
 | .rows t K xs=>Aj H w C7 v t K xs
 | .mrow t K xs=>Aj H w C7 v t K xs
 | .byt t xs=>Ut w t v xs
 | .hole _ t K xs i q=>Aj H w (E0 i q) v t K xs
 | .frz K xs=>MC (C4 H K) K.sz H xs (hdr v)/\∀ a n cap,hdr v=.slice (some a) n cap->a.off=0/\a.spot=none
 | .dead=>True
def aS:List (Nat×Array Value):=[]
def Uu (H:HP):Prop:=∀ p∈aS,∃ el fz,H p.1=some (.cells p.2 el fz)
theorem Uu.le {H H':HP} (h:Uu H) (hle:H.le H'):Uu H':=fun p hp=>by
 obtain ⟨el,fz,e⟩:=h p hp
 exact ⟨el,fz,hle _ _ e⟩
structure SR (H:HP) (φ:BF) (st:List AH) (w:World):Prop where
 hp:∀ b o,H b=some o->w.heap[b]? = some o
 box:∀ id bx,st[id]? = some bx->Ee H w (φ id) bx
 sep:∀ i j bi bj,st[i]? = some bi->st[j]? = some bj->bi.live=true->bj.live=true->i≠j->∀ b,BQ (φ i) b->¬BQ (φ j) b
 out:∀ i bi,st[i]? = some bi->bi.live=true->∀ b,BQ (φ i) b->H b=none
 cell:∀ id cs,st[id]? = some (.var cs)->∀ (o i:Nat),cs[o]? = some (AV.row i)->(AE st i).isSome=true/\∃ b,φ id=.pointer (some ⟨b,0,none⟩)/\w.cell? ⟨b,o,none⟩=some (hdr (φ i))
 tb:Uu H
def A_ (φ:BF) (st:List AH) (φ':BF) (st':List AH) (x:Option Nat):Prop :=
 ∀ id,some id≠x->((AE st id).isSome=true\/AS st id=true)->φ' id=φ id/\AE st' id=AE st id/\AS st' id=AS st id/\AL st' id=AL st id
theorem A_.refl (φ:BF) (st:List AH) (x:Option Nat):A_ φ st φ st x:=fun _ _ _=>⟨rfl,rfl,rfl,rfl⟩
theorem XS {st:List AH} {id:Nat} (h:AL st id=true):(AE st id).isSome=true\/AS st id=true:=by
 unfold AL at h
 unfold AE AS
 split at h
 ·rename_i b e
  rw [e]
  cases b<;>first | exact .inl rfl | exact .inr rfl | cases h
 ·cases h
theorem A_.hold {φ φ':BF} {st st':List AH} (h:A_ φ st φ' st' none) (id:Nat) (hv:AL st id=true):φ' id=φ id/\AL st' id=true/\AS st' id=AS st id:=by
 obtain ⟨k1,_,k3,k4⟩:=h id (by simp) (XS hv)
 exact ⟨k1,k4.trans hv,k3⟩
theorem A_.trans {φ φ' φ'':BF} {st st' st'':List AH} (h:A_ φ st φ' st' none) (g:A_ φ' st' φ'' st'' none):A_ φ st φ'' st'' none:=by
 intro id hx hd
 obtain ⟨h1,h2,h3,h4⟩:=h id hx hd
 obtain ⟨g1,g2,g3,g4⟩:=g id hx (by rw [h2,h3]; exact hd)
 exact ⟨g1.trans h1,g2.trans h2,g3.trans h3,g4.trans h4⟩
theorem VC.mono {H H':HP} {φ φ':BF} {st st':List AH} (hH:H.le H') (hk:A_ φ st φ' st' none) {a:AV} {v:Value} (h:VC H φ st a v):VC H' φ' st' a v:=by
 cases a with
 | undef=>trivial
 | void=>exact h
 | was id=>trivial
 | row id =>
  obtain ⟨e,hs⟩:=h
  obtain ⟨k1,k2,_⟩:=hk id (by simp) (.inl hs)
  exact ⟨by rw [k1]; exact e,by rw [k2]; exact hs⟩
 | ptr id off =>
  obtain ⟨hs,b,e1,e2⟩:=h
  obtain ⟨k1,_,k3,_⟩:=hk id (by simp) (.inr hs)
  exact ⟨by rw [k3]; exact hs,b,by rw [k1]; exact e1,e2⟩
 | eptr id i off =>
  obtain ⟨b,n,cap,K,hs,hi,e1,e2⟩:=h
  obtain ⟨k1,k2,_⟩:=hk id (by simp) (.inl (by simp [hs]))
  exact ⟨b,n,cap,K,by rw [k2]; exact hs,hi,by rw [k1]; exact e1,e2⟩
 | irow id i q =>
  obtain ⟨n,K,hs,hi,hq,e⟩:=h
  obtain ⟨k1,k2,_⟩:=hk id (by simp) (.inl (by simp [hs]))
  exact ⟨n,K,by rw [k2]; exact hs,hi,hq,by rw [k1]; exact e⟩
 | fptr cs off =>
  obtain ⟨b,o,c,el,fz,e,hb,vs,h1,h2⟩:=h
  exact ⟨b,o,c,el,fz,e,hH _ _ hb,vs,h1.mono hH,h2⟩
 | fn f caps=>exact VF.mono hH (a:=.fn f caps) h
 | clo f K x=>exact VF.mono hH (a:=.clo f K x) h
 | agg cs=>exact h.elim
 | tup vs=>exact h.elim
 | new t K xs=>exact h.elim
 | ref cs=>exact h.elim
 | self T=>trivial
 | int k n=>exact VF.mono hH (a:=.int k n) h
 | bool b=>exact VF.mono hH (a:=.bool b) h
 | str s=>exact VF.mono hH (a:=.str s) h
 | nil=>exact VF.mono hH (a:=.nil) h
 | lst K xs=>exact VF.mono hH (a:=.lst K xs) h
theorem VE.cases {H:HP} {a:AV} {v:Value} (h:VE H a v):(∃ cs arr,a=.agg cs/\v=.agg arr/\Ed H cs arr.toList)\/VF H a v:=by
 cases a<;>first | exact .inr h | (obtain ⟨arr,e,h⟩:=h; exact .inl ⟨_,arr,rfl,e,h⟩)
theorem VE.of_VF {H:HP} {a:AV} {v:Value} (h:VF H a v):VE H a v:=by
 cases a<;>first | exact h | exact (h:False).elim
theorem VE.mono {H H':HP} (hH:H.le H') {a:AV} {v:Value} (h:VE H a v):VE H' a v:=by
 rcases h.cases with ⟨cs,arr,rfl,e,h⟩ | h
 ·exact ⟨arr,e,h.mono hH⟩
 ·exact .of_VF (h.mono hH)
theorem VA.cases {H:HP} {φ:BF} {st:List AH} {a:AV} {v:Value} (h:VA H φ st a v) :
  (∃ cs arr,a=.agg cs/\v=.agg arr/\AX (VC H φ st) cs arr.toList)\/(∃ vs arr,a=.tup vs/\v=.tuple arr/\AX (VB H φ st) vs arr.toList)\/VC H φ st a v:=by
 cases a<;>first | exact .inr (.inr h) | (obtain ⟨arr,e,h⟩:=h; first | exact .inl ⟨_,arr,rfl,e,h⟩ | exact .inr (.inl ⟨_,arr,rfl,e,h⟩))
theorem VB.cases {H:HP} {φ:BF} {st:List AH} {a:AV} {v:Value} (h:VB H φ st a v) :
  (∃ cs arr,a=.agg cs/\v=.agg arr/\AX (VC H φ st) cs arr.toList)\/VC H φ st a v:=by
 cases a<;>first | exact .inr h | (obtain ⟨arr,e,h⟩:=h; exact .inl ⟨_,arr,rfl,e,h⟩)
theorem VB.of_VC {H:HP} {φ:BF} {st:List AH} {a:AV} {v:Value} (h:VC H φ st a v):VB H φ st a v:=by
 cases a<;>first | exact h | exact (h:False).elim
theorem VB.mono {H H':HP} {φ φ':BF} {st st':List AH} (hH:H.le H') (hk:A_ φ st φ' st' none) {a:AV} {v:Value} (h:VB H φ st a v):VB H' φ' st' a v:=by
 rcases h.cases with ⟨cs,arr,rfl,e,h⟩ | h
 ·exact ⟨arr,e,h.imp fun _ _ h=>h.mono hH hk⟩
 ·exact .of_VC (h.mono hH hk)
theorem VA.of_VB {H:HP} {φ:BF} {st:List AH} {a:AV} {v:Value} (h:VB H φ st a v):VA H φ st a v:=by
 cases a<;>first | exact h | exact (h:False).elim
theorem VA.of_VC {H:HP} {φ:BF} {st:List AH} {a:AV} {v:Value} (h:VC H φ st a v):VA H φ st a v:=by
 cases a<;>first | exact h | exact (h:False).elim
theorem VA.mono {H H':HP} {φ φ':BF} {st st':List AH} (hH:H.le H') (hk:A_ φ st φ' st' none) {a:AV} {v:Value} (h:VA H φ st a v):VA H' φ' st' a v:=by
 rcases h.cases with ⟨cs,arr,rfl,e,h⟩ | ⟨vs,arr,rfl,e,h⟩ | h
 ·exact ⟨arr,e,h.imp fun _ _ h=>h.mono hH hk⟩
 ·exact ⟨arr,e,h.imp fun _ _ h=>h.mono hH hk⟩
 ·exact .of_VC (h.mono hH hk)
theorem Ca.mono {H H':HP} {φ φ':BF} {st st':List AH} (hH:H.le H') (hk:A_ φ st φ' st' none) {fr:List (Nat×AV)} {tmps:Array Value}
  (h:Ca H φ st fr tmps):Ca H' φ' st' fr tmps:=fun t=>(h t).mono hH hk
theorem VC.of_VF {H:HP} {φ:BF} {st:List AH} {a:AV} {v:Value} (h:VF H a v):VC H φ st a v:=by
 cases a<;>first | exact h | exact (h:False).elim
theorem VA.of_VF {H:HP} {φ:BF} {st:List AH} {a:AV} {v:Value} (h:VF H a v):VA H φ st a v:=by
 cases a<;>first | exact h | exact (h:False).elim
theorem VA.of_VE {H:HP} {φ:BF} {st:List AH} {a:AV} {v:Value} (h:VE H a v):VA H φ st a v:=by
 rcases h.cases with ⟨cs,arr,rfl,e,h⟩ | h
 ·exact ⟨arr,e,(EX.1 h).imp fun _ _ h=>VC.of_VF h⟩
 ·exact VA.of_VF h
theorem VC.solid {H:HP} {φ:BF} {st:List AH} {a:AV} {v:Value} (hs:a.solid=true) (h:VC H φ st a v):VF H a v:=by
 cases a<;>first | exact h | cases hs
theorem VCs.solid {H:HP} {φ:BF} {st:List AH} {aw:List AV} {vs:List Value} (hs:aw.all AV.solid=true) (h:AX (VC H φ st) aw vs):Ed H aw vs :=
 EX.2 (h.impM fun a ha _ g=>VC.solid (Ax.1 hs a ha) g)
theorem Ca.put {H:HP} {φ:BF} {st:List AH} {fr:List (Nat×AV)} {tmps:Array Value} (h:Ca H φ st fr tmps) {d:Nat} (hd:d<tmps.size)
  {a:AV} {v:Value} (hv:VA H φ st a v):Ca H φ st ((d,a)::fr) (tmps.setIfInBounds d v):=by
 intro t
 simp only [Cd]
 by_cases e:d=t
 ·subst e
  rw [if_pos rfl]
  simpa [Array.getD,hd] using hv
 ·rw [if_neg e]
  have:=h t
  simpa [Array.getD_eq_getD_getElem?,Array.getElem?_setIfInBounds,e] using this
theorem To (fr:List (Nat×AV)) (f:AV->AV) (live:List Nat) (t:Nat) :
  Cd (live.map fun t=>(t,f (Cd fr t))) t=.undef\/Cd (live.map fun t=>(t,f (Cd fr t))) t=f (Cd fr t):=by
 induction live with
 | nil=>exact .inl rfl
 | cons s r ih =>
  simp only [List.map_cons,Cd]
  by_cases e:s=t
  ·subst e; rw [if_pos rfl]; exact .inr rfl
  ·rw [if_neg e]; exact ih
theorem Ca.live {H:HP} {φ:BF} {st:List AH} {fr:List (Nat×AV)} {tmps:Array Value} (h:Ca H φ st fr tmps) (live:List Nat) :
  Ca H φ st (live.map fun t=>(t,Cd fr t)) tmps:=by
 intro t
 rcases To fr id live t with e | e
 ·simp only [id] at e; rw [e]; trivial
 ·simp only [id] at e; rw [e]; exact h t
theorem E1 {st:List AH} {id:Nat} (h:(AE st id).isSome=true):id<st.length:=by
 unfold AE at h
 rcases BI id st.length with g | g
 ·exact g
 ·rw [Cb g] at h; simp at h
theorem PO {st:List AH} {id:Nat} (h:AS st id=true):id<st.length:=by
 unfold AS at h
 rcases BI id st.length with g | g
 ·exact g
 ·rw [Cb g] at h; simp at h
theorem CO (φ:BF) (st:List AH) (v:Value) (b:AH):A_ φ st (fun i=>if i=st.length then v else φ i) (st++[b]) none:=by
 intro id _ hd
 have hl:id<st.length:=by rcases hd with h | h; exact E1 h; exact PO h
 refine ⟨by simp [Nat.ne_of_lt hl],?_,?_,?_⟩
 ·simp [AE,AZ hl]
 ·simp [AS,AZ hl]
 ·simp [AL,AZ hl]
def Ih (f:AH->AH):Prop:=∀ b,(∃ cs cs',b=.var cs/\f b=.var cs')\/(f b=b/\∀ cs,b≠.var cs)
theorem AN (ids:List Nat):Ih (AH.kill ids):=fun b=>by
 cases b<;>first | exact .inl ⟨_,_,rfl,rfl⟩ | exact .inr ⟨rfl,by simp⟩
theorem Hm (n:Nat):Ih (AH.older n):=fun b=>by
 cases b<;>first | exact .inl ⟨_,_,rfl,rfl⟩ | exact .inr ⟨rfl,by simp⟩
theorem De {f:AH->AH} (hf:Ih f) (st:List AH) (id:Nat):AE (st.map f) id=AE st id:=by
 unfold AE
 rw [BT]
 cases st[id]? with
 | none=>rfl
 | some b =>
  simp only [Option.map_some]
  rcases hf b with ⟨cs,cs',rfl,e⟩ | ⟨e,_⟩
  ·rw [e]
  ·rw [e]
theorem Cm {f:AH->AH} (hf:Ih f) (st:List AH) (id:Nat):AS (st.map f) id=AS st id:=by
 unfold AS
 rw [BT]
 cases st[id]? with
 | none=>rfl
 | some b =>
  simp only [Option.map_some]
  rcases hf b with ⟨cs,cs',rfl,e⟩ | ⟨e,_⟩
  ·rw [e]
  ·rw [e]
theorem GZ {st:List AH} {id:Nat} (h:AL st id=true):id<st.length:=by
 unfold AL at h
 rcases BI id st.length with g | g
 ·exact g
 ·rw [Cb g] at h; simp at h
theorem Cs {f:AH->AH} (hf:Ih f) (st:List AH) (id:Nat):AL (st.map f) id=AL st id:=by
 unfold AL
 rw [BT]
 cases st[id]? with
 | none=>rfl
 | some b =>
  simp only [Option.map_some]
  rcases hf b with ⟨cs,cs',rfl,e⟩ | ⟨e,_⟩
  ·rw [e]; rfl
  ·rw [e]
theorem AV.firm_VB {H:HP} {φ:BF} {st:List AH} {a:AV} {v:Value} (hs:a.firm=true) (h:VB H φ st a v):VE H a v:=by
 rcases h.cases with ⟨cs,arr,rfl,e,h⟩ | h
 ·exact ⟨arr,e,VCs.solid hs h⟩
 ·cases a<;>first | exact VE.of_VF h | cases hs | exact h.elim
theorem VB.of_VE {H:HP} {φ:BF} {st:List AH} {a:AV} {v:Value} (h:VE H a v):VB H φ st a v:=by
 rcases h.cases with ⟨cs,arr,rfl,e,h⟩ | h
 ·exact ⟨arr,e,(EX.1 h).imp fun _ _ h=>VC.of_VF h⟩
 ·exact VB.of_VC (VC.of_VF h)
theorem VC.older {H:HP} {φ:BF} {st:List AH} {a:AV} {v:Value} (h:VC H φ st a v) (n:Nat):VC H φ ((st.take n).map (AH.older n)) (a.older1 n) v:=by
 have hk:∀ id,id<n->AE ((st.take n).map (AH.older n)) id=AE st id/\AS ((st.take n).map (AH.older n)) id=AS st id:=by
  intro id hid
  rw [De (Hm n),Cm (Hm n)]
  simp [AE,AS,BB,hid]
 cases a with
 | row id =>
  simp only [AV.older1]; split
  ·rename_i hid; obtain ⟨e,g⟩:=h; exact ⟨e,by rw [(hk id hid).1]; exact g⟩
  ·trivial
 | ptr id o =>
  simp only [AV.older1]; split
  ·rename_i hid; obtain ⟨g,r⟩:=h; exact ⟨by rw [(hk id hid).2]; exact g,r⟩
  ·trivial
 | eptr id i o =>
  simp only [AV.older1]; split
  ·rename_i hid; obtain ⟨b,m,cap,K,g,r⟩:=h; exact ⟨b,m,cap,K,by rw [(hk id hid).1]; exact g,r⟩
  ·trivial
 | irow id i q=>trivial
 | agg cs=>trivial
 | tup vs=>trivial
 | _=>exact h
theorem VA.older {H:HP} {φ:BF} {st:List AH} {a:AV} {v:Value} (h:VA H φ st a v) (n:Nat):VA H φ ((st.take n).map (AH.older n)) (a.older n) v:=by
 rcases h.cases with ⟨cs,arr,rfl,e,h⟩ | ⟨vs,arr,rfl,e,h⟩ | h
 ·exact ⟨arr,e,h.map fun _ _ h=>h.older n⟩
 ·trivial
 ·have:a.older n=a.older1 n:=by cases a<;>first | rfl | exact h.elim
  rw [this]
  exact VA.of_VC (h.older n)
def BU (φ:BF) (st:List AH) (φ':BF) (st':List AH) (ids:List Nat):Prop :=
 (∀ id,Az ids id=false->((AE st id).isSome=true\/AS st id=true)->hdr (φ' id)=hdr (φ id)/\AE st' id=AE st id/\AS st' id=AS st id) /\
 (∀ id,AL st id=true->hdr (φ' id)=hdr (φ id)/\AL st' id=true/\AS st' id=AS st id)
theorem LT {st:List AH} {id:Nat} (h:AS st id=true):AL st id=true:=by
 unfold AS at h
 unfold AL
 split at h
 ·rename_i e; rw [e]; rfl
 ·cases h
theorem VC.kill {H:HP} {φ φ':BF} {st st':List AH} {ids:List Nat} (hk:BU φ st φ' st' ids) {a:AV} {v:Value} (h:VC H φ st a v):VC H φ' st' (a.kill1 ids) v:=by
 cases a with
 | row id =>
  simp only [AV.kill1]; split
  ·trivial
  ·rename_i hid
   obtain ⟨e,g⟩:=h
   obtain ⟨k1,k2,_⟩:=hk.1 id (by simpa using hid) (.inl g)
   exact ⟨by rw [k1]; exact e,by rw [k2]; exact g⟩
 | ptr id o =>
  obtain ⟨g,b,e1,e2⟩:=h
  obtain ⟨k1,_,k3⟩:=hk.2 id (LT g)
  exact ⟨k3.trans g,b,by rw [k1]; exact e1,e2⟩
 | eptr id i o =>
  simp only [AV.kill1]; split
  ·trivial
  ·rename_i hid
   obtain ⟨b,m,cap,K,g,hi,e1,e2⟩:=h
   obtain ⟨k1,k2,_⟩:=hk.1 id (by simpa using hid) (.inl (by simp [g]))
   exact ⟨b,m,cap,K,by rw [k2]; exact g,hi,by rw [k1]; exact e1,e2⟩
 | irow id i q=>trivial
 | agg cs=>trivial
 | tup vs=>trivial
 | _=>exact h
theorem VA.kill {H:HP} {φ φ':BF} {st st':List AH} {ids:List Nat} (hk:BU φ st φ' st' ids) {a:AV} {v:Value} (h:VA H φ st a v):VA H φ' st' (a.kill ids) v:=by
 rcases h.cases with ⟨cs,arr,rfl,e,h⟩ | ⟨vs,arr,rfl,e,h⟩ | h
 ·exact ⟨arr,e,h.map fun _ _ h=>h.kill hk⟩
 ·simp only [AV.kill]
  split
  ·rename_i hf
   exact ⟨arr,e,h.impM fun a ha _ g=>VB.of_VE (AV.firm_VB (Ax.1 hf a ha) g)⟩
  ·trivial
 ·have:a.kill ids=a.kill1 ids:=by cases a<;>first | rfl | exact h.elim
  rw [this]
  exact VA.of_VC (h.kill hk)
theorem Uv (f:AV->AV):∀ (fr:List (Nat×AV)) (t:Nat),Cd (fr.map fun p=>(p.1,f p.2)) t=f (Cd fr t)\/Cd (fr.map fun p=>(p.1,f p.2)) t=.undef
 | [],_=>.inr rfl
 | (s,v)::r,t=>by
  simp only [List.map_cons,Cd]
  by_cases e:s=t
  ·rw [if_pos e,if_pos e]; exact .inl rfl
  ·rw [if_neg e,if_neg e]; exact Uv f r t
theorem Ca.kill {H:HP} {φ φ':BF} {st st':List AH} {ids:List Nat} (hk:BU φ st φ' st' ids) {fr:List (Nat×AV)} {tmps:Array Value} (h:Ca H φ st fr tmps):Ca H φ' st' (fr.map (Cq ids)) tmps:=by
 intro t
 rcases Uv (AV.kill ids) fr t with e | e
 ·have:fr.map (Cq ids)=fr.map fun p=>(p.1,p.2.kill ids):=rfl
  rw [this,e]; exact (h t).kill hk
 ·have:fr.map (Cq ids)=fr.map fun p=>(p.1,p.2.kill ids):=rfl
  rw [this,e]; trivial
end Go.Proofs.Ytffahmnodgnohaa.Core

namespace Go.Proofs.Ytffahmnodgnohaa.Core
open Go
variable {H:HP} {φ:BF} {st:List AH} {w w':World}
theorem HP.lt_of (h:∀ b o,H b=some o->w.heap[b]? = some o) {b:Nat} {o:Obj} (hb:H b=some o):b<w.heap.size :=
 (Array.getElem?_eq_some_iff.1 (h b o hb)).1
theorem WD {t:TypeId} {n m:Nat} {v:Value} {fl:List Value} (h:w.ownsRow 0 t n v m fl) {b:Nat} (hb:Dc v=some b):b<w.heap.size:=by
 rcases h.2 with ⟨rfl,_⟩ | ⟨g,cap,cur,rfl,_,hg,_⟩
 ·simp [Dc] at hb
 ·simp only [Dc,Af] at hb
  subst hb
  exact (Array.getElem?_eq_some_iff.1 hg).1
theorem QU {t:TypeId} {n m:Nat} {v:Value} {fl:List Value} (h:w.ownsRow 0 t n v m fl) {row:Option Nat} (hg:w.grownBy w' row) (hne:∀ b,Dc v=some b->row≠some b) :
  w'.ownsRow 0 t n v m fl:=by
 refine h.kept hg ?_
 rcases h.2 with ⟨rfl,_⟩ | ⟨g,cap,cur,rfl,_⟩
 ·exact .inl rfl
 ·right
  intro e
  exact hne g rfl (by simpa [Value.ownBlock] using e.symm)
theorem Aa {t:TypeId} {n m:Nat} {v:Value} {fl:List Value} (h:w.ownsRow 0 t n v m fl):∃ a c,v=.slice a m c:=by
 rcases h.2 with ⟨rfl,rfl⟩ | ⟨g,cap,cur,rfl,_⟩<;>exact ⟨_,_,rfl⟩
theorem Uw {t:TypeId} {n m base:Nat} {v:Value} {fl:List Value} (h:w.ownsRow base t n v m fl):hdr v=v:=by
 rcases h.2 with ⟨rfl,rfl⟩ | ⟨g,cap,cur,rfl,_⟩<;>rfl
theorem Cf.lt:∀ {K:Kd} {hl:Nat->Bool} {x:K.T} {cs vs:List Value},Cf H w hl K x cs vs->∀ u∈vs,∀ b,Dc u=some b->b<w.heap.size:=by
 intro K
 induction K with
 | pair a b iha ihb =>
  intro hl x cs vs h u hu bb hb
  obtain ⟨c1,c2,v1,v2,_,rfl,h1,h2⟩:=h
  rcases Am.1 hu with hu | hu
  ·exact iha h1 u hu bb hb
  ·exact ihb h2 u hu bb hb
 | own t e _ =>
  intro hl x cs vs h u hu bb hb
  obtain ⟨v,_,_,h⟩:=h
  split at h
  ·subst h
   rw [CM.1 hu] at hb
   cases hb
  ·obtain ⟨rfl,flat,h1,_⟩:=h
   rw [CM.1 hu] at hb
   exact WD h1 hb
 | _ =>
  intro hl x cs vs h u hu
  obtain ⟨rfl,_⟩:=h
  simp at hu
theorem Cf.imp {H':HP} (hH:H.le H') {row:Option Nat} (hg:w.grownBy w' row):∀ {K:Kd} {hl:Nat->Bool} {x:K.T} {cs vs:List Value},Cf H w hl K x cs vs ->
  (∀ u∈vs,∀ b,Dc u=some b->row≠some b)->Cf H' w' hl K x cs vs:=by
 intro K
 induction K with
 | pair a b iha ihb =>
  intro hl x cs vs h hn
  obtain ⟨c1,c2,v1,v2,e,rfl,h1,h2⟩:=h
  exact ⟨c1,c2,v1,v2,e,rfl,iha h1 fun u hu=>hn u (List.mem_append_left _ hu),ihb h2 fun u hu=>hn u (List.mem_append_right _ hu)⟩
 | own t e _ =>
  intro hl x cs vs h hn
  obtain ⟨v,e1,e2,h⟩:=h
  refine ⟨v,e1,e2,?_⟩
  split at h
  ·rename_i hq; rw [if_pos hq]; exact h
  ·rename_i hq
   rw [if_neg hq]
   obtain ⟨rfl,flat,h1,h2⟩:=h
   exact ⟨rfl,flat,QU h1 hg (hn v (by simp)),fun j x hx=>(h2 j x hx).mono hH⟩
 | _ =>
  intro hl x cs vs h _
  obtain ⟨e,h⟩:=h
  exact ⟨e,C4.mono hH h⟩
theorem XT {h u:Value} {vss:List (List Value)} (hu:u∈(h::vss.flatten)):u=h\/∃ (j:Nat) (vs:List Value),vss[j]? = some vs/\u∈vs:=by
 rcases AQ.1 hu with e | e
 ·exact .inl e
 ·obtain ⟨vs,h1,h2⟩:=List.mem_flatten.1 e
  obtain ⟨j,hj⟩:=List.mem_iff_getElem?.1 h1
  exact .inr ⟨j,vs,hj,h2⟩
theorem PP {vss:List (List Value)} {j:Nat} {vs:List Value} (h:vss[j]? = some vs) {α:Type} {xs:List α} (hl:vss.length=xs.length):∃ x,xs[j]? = some x :=
 ⟨_,List.getElem?_eq_getElem (by have:=(AT.1 h).1; omega)⟩
theorem D6 {h:Value} {l:List Value} (hs:∃ a n c,h=.slice a n c) {b:Nat}:BQ (Rc h l) b↔∃ u∈h::l,Dc u=some b:=by
 obtain ⟨a,n,c,rfl⟩:=hs
 cases l with
 | nil =>
  constructor
  ·intro h; exact ⟨.slice a n c,by simp,h.flat (by simp [Rc])⟩
  ·rintro ⟨u,hu,hb⟩
   rw [CM.1 hu] at hb
   exact .of hb
 | cons u us =>
  constructor
  ·rintro ⟨v,hv,hb⟩; exact ⟨v,by simpa using hv,hb⟩
  ·rintro ⟨v,hv,hb⟩; exact ⟨v,by simpa using hv,hb⟩
theorem PQ {v:Value} {b:Nat} (h:Dc (hdr v)=some b):BQ v b:=by
 cases v with
 | tuple vs =>
  simp only [hdr] at h
  cases hl:vs.toList with
  | nil=>rw [hl] at h; cases h
  | cons a r =>
   rw [hl] at h
   exact ⟨a,by rw [hl]; simp,h⟩
 | _=>exact .of h
theorem Aj.slice {hl:Nat->Nat->Bool} {v:Value} {t:TypeId} {K:Kd} {xs:List K.T} (h:Aj H w hl v t K xs):∃ a c,hdr v=.slice a xs.length c:=by
 obtain ⟨hd,flat,vss,rfl,ho,_⟩:=h
 obtain ⟨a,c,e⟩:=Aa ho
 exact ⟨a,c,by rw [D5 (by rw [e]; simp)]; exact e⟩
theorem Aj.lt {hl:Nat->Nat->Bool} {v:Value} {t:TypeId} {K:Kd} {xs:List K.T} (h:Aj H w hl v t K xs) {b:Nat} (hb:BQ v b):b<w.heap.size:=by
 obtain ⟨hd,flat,vss,rfl,ho,hl,_,hr⟩:=h
 obtain ⟨a,c,e⟩:=Aa ho
 obtain ⟨u,hu,hb2⟩:=(D6 ⟨_,_,_,e⟩).1 hb
 rcases XT hu with e | ⟨j,vs,hj,hu⟩
 ·rw [e] at hb2; exact WD ho hb2
 ·obtain ⟨x,hx⟩:=PP hj hl
  exact (hr j x vs hx hj).lt u hu b hb2
theorem Aj.imp {hl:Nat->Nat->Bool} {H':HP} (hH:H.le H') {row:Option Nat} (hg:w.grownBy w' row) {v:Value} {t:TypeId} {K:Kd} {xs:List K.T} (h:Aj H w hl v t K xs)
  (hn:∀ b,BQ v b->row≠some b):Aj H' w' hl v t K xs:=by
 obtain ⟨hd,flat,vss,rfl,ho,hl,hd',hr⟩:=h
 obtain ⟨a,c,e⟩:=Aa ho
 have hn':∀ u∈(hd::vss.flatten),∀ b,Dc u=some b->row≠some b:=fun u hu b hb=>hn b ((D6 ⟨_,_,_,e⟩).2 ⟨u,hu,hb⟩)
 refine ⟨hd,flat,vss,rfl,QU ho hg (hn' hd (by simp)),hl,hd',fun j x vs hx hj=>(hr j x vs hx hj).imp hH hg fun u hu=>hn' u ?_⟩
 exact List.mem_cons_of_mem _ (List.mem_flatten.2 ⟨vs,List.mem_of_getElem? hj,hu⟩)
theorem Ga (w:World):w.grownBy w none:=⟨rfl,rfl,rfl,Nat.le_refl _,fun _ _ _=>rfl⟩
theorem Aj.mono {hl:Nat->Nat->Bool} {H':HP} (hH:H.le H') {v:Value} {t:TypeId} {K:Kd} {xs:List K.T} (h:Aj H w hl v t K xs):Aj H' w hl v t K xs:=Aj.imp hH (Ga w) h fun _ _=>by simp
theorem Tp {t:TypeId} {n m:Nat} {v:Value} {fl:List Value} (h:w.ownsRow 0 t n v m fl) (he:∀ b,Dc v=some b->w'.heap[b]? = w.heap[b]?):w'.ownsRow 0 t n v m fl:=by
 obtain ⟨g1,g2⟩:=h
 refine ⟨g1,?_⟩
 rcases g2 with g2 | ⟨g,cap,cur,e1,e2,e3,e4⟩
 ·exact .inl g2
 ·exact .inr ⟨g,cap,cur,e1,e2,by rw [he g (by rw [e1]; rfl)]; exact e3,e4⟩
theorem Cf.same:∀ {K:Kd} {hl:Nat->Bool} {x:K.T} {cs vs:List Value},Cf H w hl K x cs vs->(∀ u∈vs,∀ b,Dc u=some b->w'.heap[b]? = w.heap[b]?)->Cf H w' hl K x cs vs:=by
 intro K
 induction K with
 | pair a b iha ihb =>
  intro hl x cs vs h hn
  obtain ⟨c1,c2,v1,v2,e,rfl,h1,h2⟩:=h
  exact ⟨c1,c2,v1,v2,e,rfl,iha h1 fun u hu=>hn u (List.mem_append_left _ hu),ihb h2 fun u hu=>hn u (List.mem_append_right _ hu)⟩
 | own t e _ =>
  intro hl x cs vs h hn
  obtain ⟨v,e1,e2,h⟩:=h
  refine ⟨v,e1,e2,?_⟩
  split at h
  ·rename_i hq; rw [if_pos hq]; exact h
  ·rename_i hq
   rw [if_neg hq]
   obtain ⟨rfl,flat,h1,h2⟩:=h
   exact ⟨rfl,flat,Tp h1 (hn v (by simp)),h2⟩
 | _ =>
  intro hl x cs vs h _
  exact h
theorem Aj.same {hl:Nat->Nat->Bool} {v:Value} {t:TypeId} {K:Kd} {xs:List K.T} (h:Aj H w hl v t K xs) (he:∀ b,BQ v b->w'.heap[b]? = w.heap[b]?):Aj H w' hl v t K xs:=by
 obtain ⟨hd,flat,vss,rfl,ho,hl,hd',hr⟩:=h
 obtain ⟨a,c,e⟩:=Aa ho
 have hn':∀ u∈(hd::vss.flatten),∀ b,Dc u=some b->w'.heap[b]? = w.heap[b]? := fun u hu b hb=>he b ((D6 ⟨_,_,_,e⟩).2 ⟨u,hu,hb⟩)
 refine ⟨hd,flat,vss,rfl,Tp ho (hn' hd (by simp)),hl,hd',fun j x vs hx hj=>(hr j x vs hx hj).same fun u hu=>hn' u ?_⟩
 exact List.mem_cons_of_mem _ (List.mem_flatten.2 ⟨vs,List.mem_of_getElem? hj,hu⟩)
theorem Cf.plain:∀ {K:Kd} {hl:Nat->Bool} {x:K.T} {cs vs:List Value},K.nown=0->(Cf H w hl K x cs vs↔vs=[]/\C4 H K x cs):=by
 intro K
 induction K with
 | pair a b iha ihb =>
  intro hl x cs vs hp
  simp only [Kd.nown] at hp
  constructor
  ·rintro ⟨c1,c2,v1,v2,rfl,rfl,h1,h2⟩
   obtain ⟨rfl,r1⟩:=(iha (by omega)).1 h1
   obtain ⟨rfl,r2⟩:=(ihb (by omega)).1 h2
   exact ⟨rfl,c1,c2,rfl,r1,r2⟩
  ·rintro ⟨rfl,c1,c2,rfl,r1,r2⟩
   exact ⟨c1,c2,[],[],rfl,rfl,(iha (by omega)).2 ⟨rfl,r1⟩,(ihb (by omega)).2 ⟨rfl,r2⟩⟩
 | own t e _=>intro hl x cs vs hp; cases hp
 | _=>intro hl x cs vs _; exact Iff.rfl
theorem Kd.plain_ok {K:Kd} (h:K.plain=true):K.nown=0:=by simpa [Kd.plain] using h
theorem Aj.flat {hl:Nat->Nat->Bool} {v:Value} {t:TypeId} {K:Kd} {xs:List K.T} (hp:K.nown=0) (h:Aj H w hl v t K xs):∃ flat,w.ownsRow 0 t K.sz v xs.length flat/\CI H K xs flat:=by
 obtain ⟨hd,flat,vss,rfl,ho,hl,_,hr⟩:=h
 have h0:vss.flatten=[]:=by
  rw [List.flatten_eq_nil_iff]
  intro vs hv
  obtain ⟨j,hj⟩:=List.mem_iff_getElem?.1 hv
  obtain ⟨x,hx⟩:=PP hj hl
  exact ((Cf.plain hp).1 (hr j x vs hx hj)).1
 rw [h0]
 refine ⟨flat,ho,fun j x hx=>?_⟩
 have hj:j<vss.length:=by rw [hl]; exact (AT.1 hx).1
 exact ((Cf.plain hp).1 (hr j x vss[j] hx (by simp))).2
theorem QV:∀ {K:Kd} {x:K.T} {cs:List Value},C4 H K x cs->K.nown=0
 | .int _,_,_,_=>rfl
 | .bool,_,_,_=>rfl
 | .str,_,_,_=>rfl
 | .slice _,_,_,_=>rfl
 | .pair a b,_,_,⟨_,_,_,h1,h2⟩=>by simp only [Kd.nown,QV h1,QV h2]
 | .own _ _,_,_,h=>h.elim
 | .ref _,_,_,_=>rfl
 | .fun _,_,_,_=>rfl
 | .clo _ _,_,_,_=>rfl
theorem Aj.of_flat {hl:Nat->Nat->Bool} {v:Value} {t:TypeId} {K:Kd} {xs:List K.T} {flat:List Value} (ho:w.ownsRow 0 t K.sz v xs.length flat) (hr:CI H K xs flat):Aj H w hl v t K xs:=by
 have hf:(List.replicate xs.length ([]:List Value)).flatten=[]:=by simp
 refine ⟨v,flat,List.replicate xs.length [],by rw [hf]; rfl,ho,by simp,?_,fun j x vs hx hj=>?_⟩
 ·rw [hf]
  simp only [List.filterMap_cons,List.filterMap_nil]
  cases Dc v<;>simp
 ·rw [List.getElem?_replicate] at hj
  split at hj
  ·cases hj
   exact (Cf.plain (QV (hr j x hx))).2 ⟨rfl,hr j x hx⟩
  ·cases hj
theorem Ee.blk_lt {v:Value} {bx:AH} (h:Ee H w v bx) (hl:bx.live=true) {b:Nat} (hb:BQ v b):b<w.heap.size:=by
 cases bx with
 | var cs =>
  obtain ⟨b',c,el,rfl,hh,_⟩:=h
  simp only [BQ] at hb
  subst hb
  exact (Array.getElem?_eq_some_iff.1 hh).1
 | rows t K xs=>exact Aj.lt h hb
 | mrow t K xs=>exact Aj.lt h hb
 | byt t xs =>
  obtain ⟨g,cap,cur,fz,rfl,hg,_⟩:=h
  simp only [BQ] at hb
  subst hb
  exact (Array.getElem?_eq_some_iff.1 hg).1
 | hole m t K xs i q=>exact Aj.lt h hb
 | frz K xs=>simp [AH.live] at hl
 | dead=>simp [AH.live] at hl
theorem Ee.kept {v:Value} {bx:AH} (h:Ee H w v bx) {row:Option Nat} (hg:w.grownBy w' row) (hne:∀ b,BQ v b->bx.live=true->row≠some b) :
  Ee H w' v bx:=by
 cases bx with
 | var cs =>
  obtain ⟨b,c,el,rfl,hh,hc⟩:=h
  refine ⟨b,c,el,rfl,?_,hc⟩
  rw [hg.block b (Array.getElem?_eq_some_iff.1 hh).1 (fun e=>hne b rfl rfl e.symm)]
  exact hh
 | rows t K xs=>exact Aj.imp (HP.le_refl H) hg h fun b hb=>hne b hb rfl
 | mrow t K xs=>exact Aj.imp (HP.le_refl H) hg h fun b hb=>hne b hb rfl
 | byt t xs =>
  obtain ⟨g,cap,cur,fz,rfl,hgc,h1,h2⟩:=h
  refine ⟨g,cap,cur,fz,rfl,?_,h1,h2⟩
  rw [hg.block g (Array.getElem?_eq_some_iff.1 hgc).1 (fun e=>hne g rfl rfl e.symm)]
  exact hgc
 | hole m t K xs i q=>exact Aj.imp (HP.le_refl H) hg h fun b hb=>hne b hb rfl
 | frz K xs=>exact h
 | dead=>trivial
theorem QW {row:Option Nat} (hg:w.grownBy w' row) {b o:Nat} {u:Value} (hne:row≠some b) (h:w.cell? ⟨b,o,none⟩=some u):w'.cell? ⟨b,o,none⟩=some u:=by
 have hlt:b<w.heap.size:=by
  rcases BI b w.heap.size with hl | hl
  ·exact hl
  ·simp [World.cell?,Array.getElem?_eq_none hl] at h
 simp only [World.cell?] at h ⊢
 rw [hg.block b hlt (fun e=>hne e.symm)]
 exact h
theorem VW.of_VF {p:Value} {el:TypeId} {a:AV} {v:Value} (h:VF H a v):VW H p el a v:=by cases a<;>first | exact h | exact h.elim
theorem VW.mono {H':HP} (hH:H.le H') {p:Value} {el:TypeId} {a:AV} {v:Value} (h:VW H p el a v):VW H' p el a v:=by
 cases a with
 | int k n=>exact VF.mono hH (a:=.int k n) h
 | bool b=>exact VF.mono hH (a:=.bool b) h
 | str b=>exact VF.mono hH (a:=.str b) h
 | nil=>exact VF.mono hH (a:=.nil) h
 | lst K xs=>exact VF.mono hH (a:=.lst K xs) h
 | fn f caps=>exact VF.mono hH (a:=.fn f caps) h
 | clo f K x=>exact VF.mono hH (a:=.clo f K x) h
 | self T=>exact h
 | _=>first | trivial | exact h.elim
theorem VWs.of_VFs {p:Value} {el:TypeId} {aw:List AV} {vs:List Value} (h:Ed H aw vs):AX (VW H p el) aw vs:=(EX.1 h).imp fun _ _ h=>VW.of_VF h
theorem SR.grow (h:SR H φ st w) (hg:w.grownBy w' none):SR H φ st w' where
 hp b o hb:=by rw [hg.block b (HP.lt_of h.hp hb) (by simp)]; exact h.hp b o hb
 box id bx hid:=(h.box id bx hid).kept hg (fun _ _ _=>by simp)
 sep:=h.sep
 out:=h.out
 cell id cs hid o i ho:=by
  obtain ⟨h1,b,h2,h3⟩:=h.cell id cs hid o i ho
  exact ⟨h1,b,h2,QW hg (by simp) h3⟩
 tb:=h.tb
theorem SR.push (h:SR H φ st w) {v:Value} {bx:AH} (hb:Ee H w v bx)
  (hn:bx.live=true->∀ b,BQ v b->H b=none/\∀ i bi,st[i]? = some bi->bi.live=true->¬BQ (φ i) b)
  (hc:∀ (cs:List AV),bx=AH.var cs->∀ (o i:Nat),cs[o]? = some (AV.row i)->(AE st i).isSome=true/\∃ b,v=.pointer (some ⟨b,0,none⟩)/\w.cell? ⟨b,o,none⟩=some (hdr (φ i))) :
  SR H (fun i=>if i=st.length then v else φ i) (st++[bx]) w where
 hp:=h.hp
 box id b0 hid:=by
  rcases Nat.lt_trichotomy id st.length with hl | hl | hl
  ·rw [AZ hl] at hid
   simp only [Nat.ne_of_lt hl,if_false]
   exact h.box id b0 hid
  ·subst hl
   simp at hid
   subst hid
   simpa using hb
  ·rw [BG (Nat.le_of_lt hl)] at hid
   rw [Cb (by simp; omega)] at hid
   cases hid
 sep i j bi bj hi hj li lj hij b hb':=by
  have key:∀ k bk,(st++[bx])[k]? = some bk->(k<st.length/\st[k]? = some bk)\/(k=st.length/\bk=bx):=by
   intro k bk hk
   rcases Nat.lt_trichotomy k st.length with hl | hl | hl
   ·rw [AZ hl] at hk; exact .inl ⟨hl,hk⟩
   ·subst hl; simp at hk; exact .inr ⟨rfl,hk.symm⟩
   ·rw [Cb (by simp; omega)] at hk; cases hk
  rcases key i bi hi with ⟨h1,h2⟩ | ⟨h1,h2⟩<;>rcases key j bj hj with ⟨g1,g2⟩ | ⟨g1,g2⟩
  ·simp only [Nat.ne_of_lt h1,Nat.ne_of_lt g1,if_false] at hb' ⊢
   exact h.sep i j bi bj h2 g2 li lj hij b hb'
  ·subst g1; subst g2
   simp only [Nat.ne_of_lt h1,if_false,if_true] at hb' ⊢
   intro e
   exact (hn lj b e).2 i bi h2 li hb'
  ·subst h1; subst h2
   simp only [Nat.ne_of_lt g1,if_false,if_true] at hb' ⊢
   exact (hn li b hb').2 j bj g2 lj
  ·omega
 out i bi hi li b hb':=by
  rcases Nat.lt_trichotomy i st.length with hl | hl | hl
  ·rw [AZ hl] at hi
   simp only [Nat.ne_of_lt hl,if_false] at hb'
   exact h.out i bi hi li b hb'
  ·subst hl
   simp at hi
   subst hi
   simp only [if_true] at hb'
   exact (hn li b hb').1
  ·rw [Cb (by simp; omega)] at hi; cases hi
 cell id cs hid o i ho:=by
  have up:∀ i,(AE st i).isSome=true->(AE (st++[bx]) i).isSome=true/\(if i=st.length then v else φ i)=φ i:=by
   intro i hi
   have hl:=E1 hi
   refine ⟨?_,by simp [Nat.ne_of_lt hl]⟩
   unfold AE at hi ⊢
   rw [AZ hl]
   exact hi
  rcases Nat.lt_trichotomy id st.length with hl | hl | hl
  ·rw [AZ hl] at hid
   obtain ⟨h1,b,h2,h3⟩:=h.cell id cs hid o i ho
   obtain ⟨u1,u2⟩:=up i h1
   refine ⟨u1,b,by simpa [Nat.ne_of_lt hl] using h2,?_⟩
   simp only [u2]; exact h3
  ·subst hl
   simp at hid
   obtain ⟨h1,b,h2,h3⟩:=hc cs hid o i ho
   obtain ⟨u1,u2⟩:=up i h1
   refine ⟨u1,b,by simpa using h2,?_⟩
   simp only [u2]; exact h3
  ·rw [Cb (by simp; omega)] at hid; cases hid
 tb:=h.tb
theorem SR.fresh (h:SR H φ st w) {b:Nat} (hb:w.heap.size<=b):H b=none/\∀ i bi,st[i]? = some bi->bi.live=true->¬BQ (φ i) b:=by
 constructor
 ·cases hq:H b with
  | none=>rfl
  | some o=>have:=HP.lt_of h.hp hq; omega
 ·intro i bi hi li e
  have:=(h.box i bi hi).blk_lt li e
  omega
theorem SR.updateG (h:SR H φ st w) {id:Nat} {bx bx':AH} {v':Value} (hid:st[id]? = some bx) (hl:bx.live=true) {row:Option Nat} (hg:w.grownBy w' row) (hrow:∀ b,row=some b->BQ (φ id) b)
  (hb:Ee H w' v' bx') (hn:∀ b,BQ v' b->BQ (φ id) b\/w.heap.size<=b)
  (hr:∀ (k:Nat) (cs:List AV),st[k]? = some (AH.var cs)->∀ (o:Nat),cs[o]? = some (AV.row id)->hdr v'=hdr (φ id)/\(AE (st.set id bx') id).isSome=true)
  (hc:∀ (cs:List AV),bx'=AH.var cs->∀ (o i:Nat),cs[o]? = some (AV.row i)->i≠id/\(AE st i).isSome=true/\∃ b,v'=.pointer (some ⟨b,0,none⟩)/\w'.cell? ⟨b,o,none⟩=some (hdr (φ i))) :
  SR H (fun i=>if i=id then v' else φ i) (st.set id bx') w':=by
 have hlt:id<st.length:=(AT.1 hid).1
 have hown:∀ b,BQ v' b->H b=none/\∀ j bj,st[j]? = some bj->bj.live=true->j≠id->¬BQ (φ j) b:=by
  intro b hb'
  rcases hn b hb' with e | e
  ·exact ⟨h.out id bx hid hl b e,fun j bj hj lj hne=>h.sep id j bx bj hid hj hl lj (Ne.symm hne) b e⟩
  ·exact ⟨(h.fresh e).1,fun j bj hj lj _=>(h.fresh e).2 j bj hj lj⟩
 have get:∀ k,k≠id->(st.set id bx')[k]? = st[k]? := fun k hk=>by rw [AU]; simp [Ne.symm hk]
 have geti:(st.set id bx')[id]? = some bx':=by rw [AU]; simp [hlt]
 refine ⟨fun b o hb'=>?_,fun k bk hk=>?_,fun i j bi bj hi hj li lj hij b hb'=>?_,fun i bi hi li b hb'=>?_,fun k cs hk o i ho=>?_,h.tb⟩
 ·rw [hg.block b (HP.lt_of h.hp hb') (fun e=>by have:=h.out id bx hid hl b (hrow _ e.symm); rw [this] at hb'; cases hb')]
  exact h.hp b o hb'
 ·by_cases e:k=id
  ·subst e
   rw [geti] at hk
   cases hk
   simpa using hb
  ·rw [get k e] at hk
   simp only [e,if_false]
   exact (h.box k bk hk).kept hg fun b h1 h2=>fun e2=>h.sep k id bk bx hk hid h2 hl e b h1 (hrow _ e2)
 ·by_cases ei:i=id
  ·subst ei
   have ej:j≠i:=Ne.symm hij
   rw [get j ej] at hj
   simp only [ej,if_false,if_true] at hb' ⊢
   exact (hown b hb').2 j bj hj lj ej
  ·rw [get i ei] at hi
   by_cases ej:j=id
   ·subst ej
    simp only [ei,if_false,if_true] at hb' ⊢
    intro e
    exact (hown b e).2 i bi hi li ei hb'
   ·rw [get j ej] at hj
    simp only [ei,ej,if_false] at hb' ⊢
    exact h.sep i j bi bj hi hj li lj hij b hb'
 ·by_cases ei:i=id
  ·subst ei
   simp only [if_true] at hb'
   exact (hown b hb').1
  ·rw [get i ei] at hi
   simp only [ei,if_false] at hb'
   exact h.out i bi hi li b hb'
 ·have kk:∀ i,i≠id->AE (st.set id bx') i=AE st i:=fun i hi=>by simp only [AE,get i hi]
  by_cases ek:k=id
  ·subst ek
   rw [geti] at hk
   cases hk
   obtain ⟨h0,h1,b,h2,h3⟩:=hc cs rfl o i ho
   exact ⟨by rw [kk i h0]; exact h1,b,by simpa using h2,by simp only [h0,if_false]; exact h3⟩
  ·rw [get k ek] at hk
   obtain ⟨h1,b,h2,h3⟩:=h.cell k cs hk o i ho
   have h4:=QW hg (fun e=>h.sep k id _ bx hk hid rfl hl ek b (by rw [h2]; rfl) (hrow _ e)) h3
   by_cases ei:i=id
   ·subst ei
    obtain ⟨g1,g2⟩:=hr k cs hk o ho
    exact ⟨g2,b,by simpa [ek] using h2,by simp only [if_true,g1]; exact h4⟩
   ·exact ⟨by rw [kk i ei]; exact h1,b,by simpa [ek] using h2,by simp only [ei,if_false]; exact h4⟩
theorem SR.update (h:SR H φ st w) {id:Nat} {bx bx':AH} {v':Value} (hid:st[id]? = some bx) (hl:bx.live=true) (hg:w.grownBy w' (Dc (φ id)))
  (hb:Ee H w' v' bx') (hn:∀ b,BQ v' b->BQ (φ id) b\/w.heap.size<=b)
  (hr:∀ (k:Nat) (cs:List AV),st[k]? = some (AH.var cs)->∀ (o:Nat),cs[o]? = some (AV.row id)->hdr v'=hdr (φ id)/\(AE (st.set id bx') id).isSome=true)
  (hc:∀ (cs:List AV),bx'=AH.var cs->∀ (o i:Nat),cs[o]? = some (AV.row i)->i≠id/\(AE st i).isSome=true/\∃ b,v'=.pointer (some ⟨b,0,none⟩)/\w'.cell? ⟨b,o,none⟩=some (hdr (φ i))) :
  SR H (fun i=>if i=id then v' else φ i) (st.set id bx') w':=h.updateG hid hl hg (fun _ e=>.of e) hb hn hr hc
theorem ND {id:Nat} {bx':AH} {v':Value} (hk:AE (st.set id bx') id=AE st id) (hv:AS (st.set id bx') id=AS st id) (hh:AL (st.set id bx') id=AL st id) (he:v'=φ id) :
  A_ φ st (fun i=>if i=id then v' else φ i) (st.set id bx') none:=by
 intro i _ _
 by_cases e:i=id
 ·subst e
  exact ⟨by simp [he],hk,hv,hh⟩
 ·refine ⟨by simp [e],?_,?_,?_⟩
  ·simp [AE,AU,Ne.symm e]
  ·simp [AS,AU,Ne.symm e]
  ·simp [AL,AU,Ne.symm e]
theorem LU {K:Kd} {xs:List K.T} {flat:List Value} (hr:CI H K xs flat) (hl:flat.length=xs.length*K.sz) {j:Nat} {x:K.T} (hx:xs[j]? = some x) :
  ∃ cs,C4 H K x cs/\cs.length=K.sz/\∀ i u,cs[i]? = some u->flat[j*K.sz+i]? = some u:=by
 have h:=hr j x hx
 refine ⟨_,h,h.length,fun i u hu=>?_⟩
 rw [BB] at hu
 split at hu
 ·simpa using hu
 ·cases hu
theorem RI {k:IntKind}:∀ {xs:List Int} {flat:List Value},CI H (.int k) xs flat->flat.length=xs.length*1->flat=xs.map (.int k)
 | [],flat,_,hl=>by
  have:flat=[]:=Dk.1 (by simpa using hl)
  subst this; rfl
 | x::xs,flat,h,hl=>by
  cases flat with
  | nil=>simp at hl
  | cons a r =>
   have h0:C4 H (.int k) x ((a::r).take 1):=h 0 x rfl
   have h0:[a]=[.int k x]:=h0
   cases h0
   have:=RI (xs:=xs) (flat:=r) (fun j y hy=>by have:=h (j+1) y (by simpa using hy); simpa [Kd.sz] using this) (by simp at hl ⊢; omega)
   rw [this]; rfl
theorem RJ {k:IntKind} {xs:List Int}:CI H (.int k) xs (xs.map (.int k)):=by
 intro j x hx
 have hj:j<xs.length:=(AT.1 hx).1
 have:((xs.map (Value.int k)).drop (j*(Kd.int k).sz)).take (Kd.int k).sz=[.int k x]:=by
  simp only [Kd.sz,Nat.mul_one]
  rw [List.drop_eq_getElem_cons (by simpa using hj)]
  simp [(AT.1 hx).2]
 rw [this]
 rfl
theorem Ut.flat {t:TypeId} {v:Value} {xs:List Int} (h:Ut w t v xs):∃ g cap,v=.slice (some ⟨g,0,none⟩) xs.length cap/\∀ (j:Nat) (u:Value),(xs.map (Value.int .u8))[j]? = some u->w.cell? ⟨g,j,none⟩=some u:=by
 obtain ⟨g,cap,cur,fz,e,hg,_,_,hc⟩:=h
 refine ⟨g,cap,e,fun j u hu=>?_⟩
 rw [BT] at hu
 cases hx:xs[j]? with
 | none=>rw [hx] at hu; cases hu
 | some x =>
  rw [hx] at hu
  cases hu
  have:=hc j x hx
  simpa [World.cell?,hg] using this
def Jd (H:HP) (w:World) (v:Value):HP:=fun b=>if BQ v b then w.heap[b]? else H b
theorem SR.freezeTo (h:SR H φ st w) {id:Nat} {t:TypeId} {K K':Kd} {xs:List K.T} {xs':List K'.T} (hid:st[id]? = some (.rows t K xs)) (hread:MC (C4 (Jd H w (φ id)) K') K'.sz (Jd H w (φ id)) xs' (hdr (φ id)))
  (hoff:∀ a n cap,hdr (φ id)=.slice (some a) n cap->a.off=0/\a.spot=none) :
  H.le (Jd H w (φ id))/\SR (Jd H w (φ id)) φ (st.set id (.frz K' xs')) w/\∀ b,¬BQ (φ id) b->Jd H w (φ id) b=H b:=by
 have hlt:id<st.length:=(AT.1 hid).1
 let H':HP:=Jd H w (φ id)
 have hle:H.le H':=by
  intro b o hb
  by_cases e:BQ (φ id) b
  ·have:=h.out id _ hid rfl b e
   rw [this] at hb
   cases hb
  ·simp only [H',Jd,e,if_false]
   exact hb
 have get:∀ k,k≠id->(st.set id (.frz K' xs'))[k]? = st[k]? := fun k hk=>by rw [AU]; simp [Ne.symm hk]
 have geti:(st.set id (.frz K' xs'))[id]? = some (.frz K' xs'):=by rw [AU]; simp [hlt]
 refine ⟨hle,⟨fun b o hb=>?_,fun k bk hk=>?_,fun i j bi bj hi hj li lj hij=>?_,fun i bi hi li b hb=>?_,fun k cs hk o i ho=>?_,h.tb.le hle⟩,fun b e=>by simp [Jd,e]⟩
 ·by_cases e:BQ (φ id) b
  ·simpa [H',Jd,e] using hb
  ·simp only [H',Jd,e,if_false] at hb
   exact h.hp b o hb
 ·by_cases e:k=id
  ·subst e
   rw [geti] at hk
   cases hk
   exact ⟨hread,hoff⟩
  ·rw [get k e] at hk
   have:=h.box k bk hk
   cases bk with
   | var cs=>obtain ⟨b,c,el,e1,e2,e3⟩:=this; exact ⟨b,c,el,e1,e2,e3.imp fun _ _ h=>h.mono hle⟩
   | rows t' K' xs'=>exact Aj.mono hle this
   | mrow t' K' xs'=>exact Aj.mono hle this
   | byt t' xs'=>exact this
   | hole m t' K' xs' i q=>exact Aj.mono hle this
   | frz K' xs'=>obtain ⟨r',a'⟩:=this; exact ⟨GY (fun _ _ h=>C4.mono hle h) hle r',a'⟩
   | dead=>trivial
 ·by_cases ei:i=id
  ·subst ei; rw [geti] at hi; cases hi; cases li
  ·by_cases ej:j=id
   ·subst ej; rw [geti] at hj; cases hj; cases lj
   ·rw [get i ei] at hi
    rw [get j ej] at hj
    exact h.sep i j bi bj hi hj li lj hij
 ·by_cases ei:i=id
  ·subst ei; rw [geti] at hi; cases hi; cases li
  ·rw [get i ei] at hi
   have e:¬BQ (φ id) b:=fun e=>h.sep i id bi _ hi hid li rfl ei b hb e
   simp only [H',Jd,e,if_false]
   exact h.out i bi hi li b hb
 ·by_cases ek:k=id
  ·subst ek; rw [geti] at hk; cases hk
  ·rw [get k ek] at hk
   obtain ⟨h1,b,h2,h3⟩:=h.cell k cs hk o i ho
   refine ⟨?_,b,h2,h3⟩
   by_cases ei:i=id
   ·subst ei; unfold AE; rw [geti]; rfl
   ·unfold AE at h1 ⊢; rw [get i ei]; exact h1
theorem Ux (h:SR H φ st w) {id:Nat} {t:TypeId} {K:Kd} {xs:List K.T} (hp:K.plain=true) (hid:st[id]? = some (.rows t K xs)) :
  MC (C4 (Jd H w (φ id)) K) K.sz (Jd H w (φ id)) xs (hdr (φ id))/\∀ a n cap,hdr (φ id)=.slice (some a) n cap->a.off=0/\a.spot=none:=by
 obtain ⟨flat,ho,hr⟩:=Aj.flat (Kd.plain_ok hp) (h.box id _ hid)
 have hle:H.le (Jd H w (φ id)):=by
  intro b o hb
  by_cases e:BQ (φ id) b
  ·have:=h.out id _ hid rfl b e
   rw [this] at hb
   cases hb
  ·simp only [Jd,e,if_false]
   exact hb
 obtain ⟨a0,c0,e0⟩:=Aa ho
 have hh:hdr (φ id)=φ id:=by rw [e0]; rfl
 rw [hh]
 constructor
 ·rcases ho.2 with ⟨e,hn⟩ | ⟨g,cap,cur,e,_,hg,hc,hm,hs,ht⟩
  ·have:xs=[]:=Dk.1 hn
   subst this
   rw [e]
   exact F4
  ·refine ⟨some ⟨g,0,none⟩,cap,e,hc,.inr ⟨g,0,cur,t,(0,0),rfl,?_,fun j x hx=>?_⟩⟩
   ·simp [Jd,e,BQ,hg]
   ·obtain ⟨cs,h1,h2,h3⟩:=LU hr ho.1 hx
    refine ⟨cs,h1.mono hle,h2,fun i u hu=>?_⟩
    have:=h3 i u hu
    rw [<- ht,BB] at this
    split at this
    ·simpa using this
    ·cases this
 ·intro a n cap e2
  rcases ho.2 with ⟨e,_⟩ | ⟨g,cap',cur,e,_⟩
  ·rw [e] at e2; cases e2
  ·rw [e] at e2; cases e2; exact ⟨rfl,rfl⟩
theorem SR.freeze (h:SR H φ st w) {id:Nat} {t:TypeId} {K:Kd} {xs:List K.T} (hp:K.plain=true) (hid:st[id]? = some (.rows t K xs)) :
  ∃ H',H.le H'/\SR H' φ (st.set id (.frz K xs)) w/\MC (C4 H' K) K.sz H' xs (hdr (φ id))/\∀ b,¬BQ (φ id) b->H' b=H b:=by
 obtain ⟨h1,h2⟩:=Ux h hp hid
 obtain ⟨g1,g2,g3⟩:=h.freezeTo hid h1 h2
 exact ⟨_,g1,g2,h1,g3⟩
theorem PR {id:Nat} {t:TypeId} {K:Kd} {xs:List K.T} (hid:st[id]? = some (.rows t K xs)):A_ φ st φ (st.set id (.frz K xs)) none:=by
 have hlt:id<st.length:=(AT.1 hid).1
 intro i _ _
 by_cases e:i=id
 ·subst e
  have e2:(st.set i (AH.frz K xs))[i]? = some (.frz K xs):=by rw [AU]; simp [hlt]
  refine ⟨rfl,?_,?_,?_⟩
  ·simp only [AE,hid,e2]
  ·simp only [AS,hid,e2]
  ·simp only [AL,hid,e2]; rfl
 ·refine ⟨rfl,?_,?_,?_⟩
  ·simp [AE,AU,Ne.symm e]
  ·simp [AS,AU,Ne.symm e]
  ·simp [AL,AU,Ne.symm e]
def Kj (g:AV->AV):AH->AH
 | .var cs=>.var (cs.map g)
 | b=>b
theorem TR (g:AV->AV):Ih (Kj g):=fun b=>by
 cases b<;>first | exact .inl ⟨_,_,rfl,rfl⟩ | exact .inr ⟨rfl,by simp⟩
theorem SR.forget (h:SR H φ st w) {g:AV->AV} (hg:∀ c,g c=c\/(∃ i,g c=.was i)\/g c=.undef):SR H φ (st.map (Kj g)) w:=by
 have get:∀ (k:Nat) (b:AH),(st.map (Kj g))[k]? = some b->∃ b0,st[k]? = some b0/\b=Kj g b0/\(b.live=b0.live):=by
  intro k b hk
  rw [BT] at hk
  cases hb:st[k]? with
  | none=>rw [hb] at hk; cases hk
  | some b0 =>
   rw [hb] at hk
   cases hk
   exact ⟨b0,rfl,rfl,by cases b0<;>rfl⟩
 refine ⟨h.hp,fun k b hk=>?_,fun i j bi bj hi hj li lj hij=>?_,fun i bi hi li=>?_,fun k cs hk o i ho=>?_,h.tb⟩
 ·obtain ⟨b0,h1,rfl,_⟩:=get k b hk
  have:=h.box k b0 h1
  cases b0 with
  | var cs =>
   obtain ⟨b,c,el,e1,e2,e3⟩:=this
   refine ⟨b,c,el,e1,e2,e3.map fun a v hv=>?_⟩
   rcases hg a with e | ⟨i,e⟩ | e
   ·rw [e]; exact hv
   ·rw [e]; trivial
   ·rw [e]; trivial
  | _=>exact this
 ·obtain ⟨b0,h1,_,l1⟩:=get i bi hi
  obtain ⟨b1,h2,_,l2⟩:=get j bj hj
  exact h.sep i j b0 b1 h1 h2 (l1▸li) (l2▸lj) hij
 ·obtain ⟨b0,h1,_,l1⟩:=get i bi hi
  exact h.out i b0 h1 (l1▸li)
 ·obtain ⟨b0,h1,e,_⟩:=get k _ hk
  cases b0 with
  | var cs0 =>
   cases e
   rw [BT] at ho
   cases hc:cs0[o]? with
   | none=>rw [hc] at ho; cases ho
   | some c =>
    rw [hc] at ho
    simp only [Option.map_some,Af] at ho
    rcases hg c with e | ⟨j,e⟩ | e
    ·rw [e] at ho
     subst ho
     obtain ⟨g1,g2⟩:=h.cell k cs0 h1 o i hc
     exact ⟨by rw [De (TR g)]; exact g1,g2⟩
    ·rw [e] at ho; cases ho
    ·rw [e] at ho; cases ho
  | _=>cases e
theorem XU (ids:List Nat):AH.kill ids=Kj (AV.killB ids):=by funext b; cases b<;>rfl
theorem Uy (ids:List Nat) (c:AV):AV.killB ids c=c\/(∃ i,AV.killB ids c=.was i)\/AV.killB ids c=.undef:=by
 cases c with
 | row i =>
  simp only [AV.killB]
  split
  ·exact .inr (.inl ⟨i,rfl⟩)
  ·exact .inl rfl
 | _=>exact .inl rfl
theorem SR.kill (h:SR H φ st w) (ids:List Nat):SR H φ (st.map (AH.kill ids)) w:=by
 rw [XU]; exact h.forget (Uy ids)
theorem Wo (n:Nat):AH.older n=Kj (AV.olderC n):=by funext b; cases b<;>rfl
theorem SR.older (h:SR H φ st w) (n:Nat):SR H φ (st.map (AH.older n)) w:=by
 rw [Wo]
 refine h.forget fun c=>?_
 cases c with
 | row i =>
  simp only [AV.olderC]
  split
  ·exact .inl rfl
  ·exact .inr (.inr rfl)
 | _=>exact .inl rfl
theorem Gb {ids:List Nat} {k:Nat} {cs:List AV} (h:(st.map (AH.kill ids))[k]? = some (.var cs)) {o i:Nat} (ho:cs[o]? = some (.row i)):Az ids i=false:=by
 rw [BT] at h
 cases hb:st[k]? with
 | none=>rw [hb] at h; cases h
 | some b =>
  rw [hb] at h
  cases b with
  | var cs0 =>
   cases h
   rw [BT] at ho
   cases hc:cs0[o]? with
   | none=>rw [hc] at ho; cases ho
   | some c =>
    rw [hc] at ho
    simp only [Option.map_some,Af] at ho
    cases c<;>simp only [AV.killB] at ho<;>try cases ho
    split at ho
    ·cases ho
    ·rename_i hn
     cases ho
     simpa using hn
  | _=>cases h
end Go.Proofs.Ytffahmnodgnohaa.Core

namespace Go.Proofs.Ytffahmnodgnohaa.Core
open Go
variable {H:HP} {φ:BF} {st:List AH} {w:World}
theorem VF.cells {a:AV} {v:Value} (h:VF H a v):v.cells=#[v]:=by
 cases a with
 | int k n=>simp only [VF] at h; subst h; rfl
 | bool b=>simp only [VF] at h; subst h; rfl
 | str s=>simp only [VF] at h; subst h; rfl
 | nil=>simp only [VF] at h; subst h; rfl
 | lst K xs=>obtain ⟨a,cap,e,_⟩:=h; subst e; rfl
 | fn f caps=>obtain ⟨_,e⟩:=h; subst e; rfl
 | clo f K x=>obtain ⟨b,o,c,el,fz,e,_⟩:=h; subst e; rfl
 | _=>exact h.elim
theorem Kd.sz_pos:∀ K:Kd,0<K.sz
 | .int _=>Nat.one_pos
 | .bool=>Nat.one_pos
 | .str=>Nat.one_pos
 | .slice _=>Nat.one_pos
 | .pair a b=>by have:=Kd.sz_pos a; simp only [Kd.sz]; omega
 | .own _ _=>Nat.one_pos
 | .ref _=>Nat.one_pos
 | .fun _=>Nat.one_pos
 | .clo _ _=>Nat.one_pos
theorem Wp {K:Kd} {xs:List K.T} {v:Value} (hp:∀ b o,H b=some o->w.heap[b]? = some o) (h:MC (C4 H K) K.sz H xs v) :
  ∃ sl cap flat,v=.slice sl xs.length cap/\xs.length<=cap/\flat.length=xs.length*K.sz/\CI H K xs flat /\
   (xs=[]\/∃ b off c el fz,sl=some ⟨b,off,none⟩/\H b=some (.cells c el fz)/\(∀ j u,flat[j]? = some u->c[off+j]? = some u)):=by
 obtain ⟨sl,cap,e,hc,hr⟩:=h
 rcases hr with rfl | ⟨b,off,c,el,fz,ea,hb,hr⟩
 ·exact ⟨sl,cap,[],e,hc,by simp,fun j x hx=>by simp at hx,.inl rfl⟩
 ·refine ⟨sl,cap,(c.toList.drop off).take (xs.length*K.sz),e,hc,?_,?_,.inr ⟨b,off,c,el,fz,ea,hb,?_⟩⟩
  ·have hsz:=Kd.sz_pos K
   rcases Nat.eq_zero_or_pos xs.length with h0 | h0
   ·simp [h0]
   ·obtain ⟨cs,h1,h2,h3⟩:=hr (xs.length-1) (xs[xs.length-1]'(by omega)) (by simp)
    have hlast:=h3 (K.sz-1) (cs[K.sz-1]'(by omega)) (by simp)
    have hlt:off+(xs.length-1)*K.sz+(K.sz-1)<c.size:=by
     have:=(Array.getElem?_eq_some_iff.1 hlast).1
     exact this
    have e2:(xs.length-1)*K.sz+K.sz=xs.length*K.sz:=by
     rw [<- Nat.succ_mul]; congr 1; omega
    simp only [List.length_take,List.length_drop,Array.length_toList]
    omega
  ·intro j x hx
   obtain ⟨cs,h1,h2,h3⟩:=hr j x hx
   have hj:j<xs.length:=(AT.1 hx).1
   have e3:((((c.toList.drop off).take (xs.length*K.sz)).drop (j*K.sz)).take K.sz)=cs:=by
    apply List.ext_getElem?
    intro i
    rcases BI i K.sz with hi | hi
    ·have hci:cs[i]? = some (cs[i]'(by omega)):=by simp
     have:=h3 i _ hci
     have hlt2:j*K.sz+i<xs.length*K.sz:=by
      have:(j+1)*K.sz<=xs.length*K.sz:=Bj _ hj
      rw [Nat.succ_mul] at this
      omega
     rw [hci,BB,if_pos hi,Ba,BB,if_pos hlt2,Ba,Array.getElem?_toList]
     rw [show off+(j*K.sz+i)=off+j*K.sz+i by omega]
     exact this
    ·rw [BB,if_neg (by omega),Cb (by omega)]
   rw [e3]
   exact h1
  ·intro j u hu
   rw [BB] at hu
   split at hu
   ·rw [Ba,Array.getElem?_toList] at hu
    exact hu
   ·cases hu
theorem UG {ρ:Type} {s:St} {a:AV} {v:Value} {K:Kd} {kn:List K.T->Option ρ} {r:ρ} (hs:SR H φ s.st w) (hv:VC H φ s.st a v) (h:s.list a K kn=some r) :
  ∃ xs,kn xs=some r/\∃ sl cap flat,v=.slice sl xs.length cap/\flat.length=xs.length*K.sz/\CI H K xs flat /\
   (sl=none\/xs=[]\/∃ b off,sl=some ⟨b,off,none⟩/\∀ j u,flat[j]? = some u->w.cell? ⟨b,off+j,none⟩=some u)/\(sl=none->xs=[]):=by
 have frozen:∀ (xs:List K.T) v,MC (C4 H K) K.sz H xs v->∃ sl cap flat,v=.slice sl xs.length cap/\flat.length=xs.length*K.sz/\CI H K xs flat /\
   (sl=none\/xs=[]\/∃ b off,sl=some ⟨b,off,none⟩/\∀ j u,flat[j]? = some u->w.cell? ⟨b,off+j,none⟩=some u)/\(sl=none->xs=[]):=by
  intro xs v hr
  obtain ⟨sl,cap,flat,e,_,hl,hrr,hc⟩:=Wp hs.hp hr
  refine ⟨sl,cap,flat,e,hl,hrr,?_,?_⟩
  ·rcases hc with h0 | ⟨b,off,c,el,fz,e1,e2,e3⟩
   ·exact .inr (.inl h0)
   ·refine .inr (.inr ⟨b,off,e1,fun j u hu=>?_⟩)
    simp only [World.cell?,hs.hp _ _ e2]
    simpa using e3 j u hu
  ·intro e0
   rcases hc with h0 | ⟨b,off,c,el,fz,e1,_⟩
   ·exact h0
   ·rw [e0] at e1; cases e1
 cases a with
 | nil =>
  simp only [St.list] at h
  simp only [VC,VF] at hv
  subst hv
  exact ⟨[],h,none,0,[],rfl,by simp,fun j x hx=>by simp at hx,.inl rfl,fun _=>rfl⟩
 | lst K' xs =>
  simp only [St.list] at h
  split at h
  ·rename_i hk
   subst hk
   exact ⟨xs,h,frozen xs v hv⟩
  ·cases h
 | row id =>
  simp only [St.list] at h
  obtain ⟨e,_⟩:=hv
  subst e
  cases hb:s.st[id]? with
  | none=>rw [hb] at h; cases h
  | some bx =>
   rw [hb] at h
   have hbox:=hs.box id bx hb
   cases bx with
   | rows t K' xs =>
    simp only at h
    split at h
    ·rename_i hk
     subst hk
     split at h
     case isFalse=>cases h
     rename_i hp
     obtain ⟨flat,ho,hr⟩:=Aj.flat (Kd.plain_ok hp) hbox
     refine ⟨xs,h,?_⟩
     rcases ho.2 with ⟨e,hn⟩ | ⟨g,cap,cur,e,_,hg,hc,hm,hsz,ht⟩
     ·have h0:xs=[]:=Dk.1 hn
      subst h0
      exact ⟨none,0,flat,by rw [e]; rfl,ho.1,hr,.inl rfl,fun _=>rfl⟩
     ·refine ⟨some ⟨g,0,none⟩,cap,flat,by rw [e]; rfl,ho.1,hr,.inr (.inr ⟨g,0,rfl,fun j u hu=>?_⟩),fun e0=>by cases e0⟩
      have:=ho.cells (g:=g) (by rw [e]; rfl) j u hu
      have hadd:(⟨g,0,none⟩:Addr).add j=⟨g,0+j,none⟩:=by unfold Addr.add; split<;>simp_all
      rw [hadd] at this
      exact this
    ·cases h
   | hole m t K xs i q=>cases h
   | byt t xs =>
    simp only at h
    split at h
    ·rename_i hk
     subst hk
     obtain ⟨g,cap,e,hc⟩:=Ut.flat hbox
     exact ⟨xs,h,some ⟨g,0,none⟩,cap,xs.map (.int .u8),by rw [e]; rfl,by simp [Kd.sz],RJ,.inr (.inr ⟨g,0,rfl,fun j u hu=>by rw [Nat.zero_add]; exact hc j u hu⟩),fun e0=>by cases e0⟩
    ·cases h
   | mrow t K' xs =>
    simp only at h
    split at h
    ·rename_i hk
     subst hk
     split at h
     case isFalse=>cases h
     rename_i hp
     obtain ⟨flat,ho,hr⟩:=Aj.flat (Kd.plain_ok hp) hbox
     refine ⟨xs,h,?_⟩
     rcases ho.2 with ⟨e,hn⟩ | ⟨g,cap,cur,e,_,hg,hc,hm,hsz,ht⟩
     ·have h0:xs=[]:=Dk.1 hn
      subst h0
      exact ⟨none,0,flat,by rw [e]; rfl,ho.1,hr,.inl rfl,fun _=>rfl⟩
     ·refine ⟨some ⟨g,0,none⟩,cap,flat,by rw [e]; rfl,ho.1,hr,.inr (.inr ⟨g,0,rfl,fun j u hu=>?_⟩),fun e0=>by cases e0⟩
      have:=ho.cells (g:=g) (by rw [e]; rfl) j u hu
      have hadd:(⟨g,0,none⟩:Addr).add j=⟨g,0+j,none⟩:=by unfold Addr.add; split<;>simp_all
      rw [hadd] at this
      exact this
    ·cases h
   | frz K' xs =>
    simp only at h
    split at h
    ·rename_i hk
     subst hk
     exact ⟨xs,h,frozen xs _ hbox.1⟩
    ·cases h
   | var cs=>cases h
   | dead=>cases h
 | _=>cases h
end Go.Proofs.Ytffahmnodgnohaa.Core

namespace Go.Proofs.Ytffahmnodgnohaa.Core
open Go
variable {H:HP} {φ:BF} {st:List AH} {w:World} {P:Program}
theorem Cf.vlen:∀ {K:Kd} {hl:Nat->Bool} {x:K.T} {cs vs:List Value},Cf H w hl K x cs vs->vs.length=K.nown:=by
 intro K
 induction K with
 | pair a b iha ihb =>
  intro hl x cs vs h
  obtain ⟨c1,c2,v1,v2,_,rfl,h1,h2⟩:=h
  simp [Kd.nown,iha h1,ihb h2]
 | own t e _ =>
  intro hl x cs vs h
  obtain ⟨v,_,_,h⟩:=h
  split at h
  ·subst h; rfl
  ·rw [h.1]; rfl
 | _=>intro hl x cs vs h; rw [h.1]; rfl
theorem Cf.clen:∀ {K:Kd} {hl:Nat->Bool} {x:K.T} {cs vs:List Value},Cf H w hl K x cs vs->cs.length=K.sz:=by
 intro K
 induction K with
 | pair a b iha ihb =>
  intro hl x cs vs h
  obtain ⟨c1,c2,v1,v2,rfl,_,h1,h2⟩:=h
  simp [Kd.sz,iha h1,ihb h2]
 | own t e _ =>
  intro hl x cs vs h
  obtain ⟨v,rfl,_⟩:=h
  rfl
 | _=>intro hl x cs vs h; exact h.2.length
theorem Fp {α:Type} {k:Nat}:∀ {vss:List (List α)} {j m:Nat} {vs:List α},(∀ vs∈vss,vs.length=k)->vss[j]? = some vs->m<k->vss.flatten[j*k+m]? = vs[m]?
 | [],j,m,vs,_,h,_=>by simp at h
 | v::vss,0,m,vs,hl,h,hm=>by
  simp at h
  subst h
  rw [List.flatten_cons,Nat.zero_mul,Nat.zero_add,AZ (by rw [hl _ (by simp)]; exact hm)]
 | v::vss,j+1,m,vs,hl,h,hm=>by
  have hv:=hl v (by simp)
  rw [List.flatten_cons,Nat.succ_mul,BG (by omega),show j*k+k+m-v.length=j*k+m by omega]
  exact Fp (fun vs h=>hl vs (by simp [h])) (by simpa using h) hm
theorem Aj.elem {hl:Nat->Nat->Bool} {v:Value} {t:TypeId} {K:Kd} {xs:List K.T} (h:Aj H w hl v t K xs) {i b n cap:Nat} (hi:i<xs.length) (hv:hdr v=.slice (some ⟨b,0,none⟩) n cap) :
  ∃ seg vs,Cf H w (hl i) K (xs.getD i K.zero) seg vs/\w.rangeAt b (i*K.sz) seg/\∀ m u,vs[m]? = some u->Wn v (i*K.nown+m)=some u:=by
 obtain ⟨hd,flat,vss,rfl,ho,hlen,_,hr⟩:=h
 obtain ⟨a,c,e⟩:=Aa ho
 rw [D5 (by rw [e]; simp)] at hv
 have hx:xs[i]? = some (xs.getD i K.zero):=by simp [List.getD,hi]
 have hvs:vss[i]? = some (vss[i]'(by omega)):=by simp
 have hn:=hr i _ _ hx hvs
 refine ⟨_,_,hn,fun j u hu=>?_,fun m u hu=>XQ ?_⟩
 ·rw [BB] at hu
  split at hu
  ·rw [Ba] at hu
   have:=ho.cells (g:=b) (by rw [hv]; rfl) (i*K.sz+j) u hu
   rw [Addr.add_mid] at this
   simpa using this
  ·cases hu
 ·rw [Fp (k:=K.nown) (fun vs hm=>?_) hvs (by have:=(AT.1 hu).1; rw [hn.vlen] at this; exact this)]
  ·exact hu
  ·obtain ⟨j,hj⟩:=List.mem_iff_getElem?.1 hm
   obtain ⟨x,hx⟩:=PP hj hlen
   exact (hr j x vs hx hj).vlen
theorem Aj.addr {hl:Nat->Nat->Bool} {v:Value} {t:TypeId} {K:Kd} {xs:List K.T} (h:Aj H w hl v t K xs):xs.length=0\/∃ g cap,hdr v=.slice (some ⟨g,0,none⟩) xs.length cap:=by
 obtain ⟨hd,flat,vss,rfl,ho,_⟩:=h
 obtain ⟨a,c,e⟩:=Aa ho
 rw [D5 (by rw [e]; simp)]
 rcases ho.2 with ⟨_,e2⟩ | ⟨g,cap,cur,e1,_⟩
 ·exact .inl e2
 ·exact .inr ⟨g,cap,e1⟩
theorem UH {id i N:Nat} {K0:Kd} {hb:Bool} (hk:AE st id=some (K0,N)) (hi:i<N):∀ {K:Kd} {n:Nat} {hl:Nat->Bool} {x:K.T} {cs vs:List Value},(hb=false->∀ m,hl m=false) ->
  Cf H w hl K x cs vs->n+K.nown<=K0.nown->(hb=false->∀ m u,vs[m]? = some u->Wn (φ id) (i*K0.nown+(n+m))=some u)->AX (VC H φ st) (Vi id i hb n K x) cs:=by
 intro K
 induction K with
 | pair a b iha ihb =>
  intro n hl x cs vs hh h hn hv
  obtain ⟨c1,c2,v1,v2,rfl,rfl,h1,h2⟩:=h
  simp only [Kd.nown] at hn
  have l1:=h1.vlen
  refine (iha hh h1 (by omega) fun hf m u hu=>hv hf m u ?_).append (ihb (fun hf m=>hh hf _) h2 (by omega) fun hf m u hu=>?_)
  ·rw [AZ (AT.1 hu).1]; exact hu
  ·have:=hv hf (a.nown+m) u (by rw [BG (by omega)]; rw [<- hu]; congr 1; omega)
   rw [Nat.add_assoc]
   exact this
 | own t e _ =>
  intro n hl x cs vs hh h hn hv
  obtain ⟨v,rfl,_,h⟩:=h
  simp only [Vi]
  refine ⟨v,[],rfl,?_,rfl⟩
  cases hb with
  | true=>trivial
  | false =>
   rw [hh rfl 0,if_neg (by simp)] at h
   rw [if_neg (by simp)]
   exact ⟨N,K0,hk,hi,by simp only [Kd.nown] at hn; omega,by have:=hv rfl 0 v (by rw [h.1]; rfl); simpa using this⟩
 | _ =>
  intro n hl x cs vs _ h _ _
  exact (EX.1 (Ed.of_rep h.2)).imp fun _ _ h=>VC.of_VF h
theorem NE {s:St} {a:AV} {v:Value} {cs:List AV} {off:Nat} (hs:SR H φ s.st w) (hv:VC H φ s.st a v) (h:s.behind a=some (cs,off)) :
  ∃ b o vs,v=.pointer (some ⟨b,o+off,none⟩)/\AX (VC H φ s.st) cs vs/\w.rangeAt b o vs:=by
 cases a with
 | fptr cs' off' =>
  cases h
  obtain ⟨b,o,c,el,fz,e,hb,vs,h1,h2⟩:=hv
  refine ⟨b,o,vs,e,(EX.1 h1).imp fun _ _ h=>VC.of_VF h,fun j u hu=>?_⟩
  simp only [World.cell?,hs.hp _ _ hb]
  simpa using h2 j u hu
 | ptr id off' =>
  obtain ⟨_,b,e1,e2⟩:=hv
  simp only [St.behind] at h
  cases hb:s.st[id]? with
  | none=>rw [hb] at h; cases h
  | some bx =>
   rw [hb] at h
   cases bx with
   | var cs' =>
    cases h
    obtain ⟨b',c,el,e3,hh,hc⟩:=hs.box id _ hb
    rw [e3] at e1
    cases e1
    refine ⟨b,0,c.toList,by rw [e2]; simp,Jn hc.length fun j a u ha hu=>?_,fun j u hu=>?_⟩
    ·have hw:=hc.at ha hu
     cases a with
     | row i =>
      obtain ⟨g1,b2,g2,g3⟩:=hs.cell id _ hb j i ha
      rw [e3] at g2
      cases g2
      simp only [World.cell?,hh] at g3
      rw [Array.getElem?_toList] at hu
      simp only [Option.isSome_none,Bool.false_eq_true,if_false] at g3
      rw [hu] at g3
      cases g3
      exact ⟨rfl,g1⟩
     | was i=>trivial
     | self T=>trivial
     | undef=>trivial
     | _=>exact VC.of_VF hw
    simp only [World.cell?,hh]
    simpa using hu
   | _=>cases h
 | eptr id i off' =>
  obtain ⟨b,n,cap,K,hk,hi,e1,e2⟩:=hv
  simp only [St.behind] at h
  cases hb:s.st[id]? with
  | none=>rw [hb] at h; cases h
  | some bx =>
   rw [hb] at h
   cases bx with
   | rows t K' xs =>
    cases h
    simp only [AE,hb,Af,Prod.mk.injEq] at hk
    obtain ⟨rfl,rfl⟩:=hk
    obtain ⟨seg,vs,h1,h2,h3⟩:=Aj.elem (hs.box id _ hb) hi e1
    exact ⟨b,i*K'.sz,seg,e2,UH (K0:=K') (N:=xs.length) (by simp only [AE,hb]) hi (fun _ _=>rfl) h1 (by omega) fun _ m u hu=>by rw [Nat.zero_add]; exact h3 m u hu,h2⟩
   | hole m t K' xs i' q =>
    cases h
    simp only [AE,hb,Af,Prod.mk.injEq] at hk
    obtain ⟨rfl,rfl⟩:=hk
    obtain ⟨seg,vs,h1,h2,h3⟩:=Aj.elem (hs.box id _ hb) hi e1
    exact ⟨b,i*K'.sz,seg,e2,UH (K0:=K') (N:=xs.length) (by simp only [AE,hb]) hi (fun h=>by cases h) h1 (by omega) (fun h=>by cases h),h2⟩
   | byt t xs =>
    cases h
    simp only [AE,hb,Af,Prod.mk.injEq] at hk
    obtain ⟨rfl,rfl⟩:=hk
    obtain ⟨g,cap',e3,hc⟩:=Ut.flat (hs.box id _ hb)
    rw [e3] at e1
    cases e1
    refine ⟨b,i*1,[.int .u8 (xs.getD i (Kd.int .u8).zero)],by rw [e2]; rfl,⟨_,_,rfl,rfl,rfl⟩,fun j u hu=>?_⟩
    match j,hu with
    | 0,hu =>
     cases hu
     simpa using hc i _ (by simp [List.getD,hi])
   | mrow t K' xs =>
    cases h
    simp only [AE,hb,Af,Prod.mk.injEq] at hk
    obtain ⟨rfl,rfl⟩:=hk
    obtain ⟨seg,vs,h1,h2,h3⟩:=Aj.elem (hs.box id _ hb) hi e1
    exact ⟨b,i*K'.sz,seg,e2,UH (K0:=K') (N:=xs.length) (by simp only [AE,hb]) hi (fun _ _=>rfl) h1 (by omega) fun _ m u hu=>by rw [Nat.zero_add]; exact h3 m u hu,h2⟩
   | frz K' xs =>
    cases h
    simp only [AE,hb,Af,Prod.mk.injEq] at hk
    obtain ⟨rfl,rfl⟩:=hk
    obtain ⟨hr,ha⟩:=hs.box id _ hb
    obtain ⟨sl,cap',e3,_,hr⟩:=hr
    have hx:xs[i]? = some (xs.getD i K'.zero):=by simp [List.getD,hi]
    rcases hr with h0 | ⟨b',o',c,el,fz,e4,e5,e6⟩
    ·rw [h0] at hi; simp at hi
    ·obtain ⟨vs,r1,r2,r3⟩:=e6 i _ hx
     rw [e1] at e3
     simp only [Value.slice.injEq] at e3
     rw [e4] at e3
     obtain ⟨e7,_⟩:=e3
     simp only [Af,Addr.mk.injEq] at e7
     obtain ⟨rfl,rfl,_⟩:=e7
     refine ⟨b,i*K'.sz,vs,e2,(EX.1 (Ed.of_rep r1)).imp fun _ _ h=>VC.of_VF h,fun j u hu=>?_⟩
     have:=r3 j u hu
     simp only [World.cell?,hs.hp _ _ e5]
     simpa using this
   | _=>cases h
 | _=>cases h
def Vh (P:Program) (t:TypeId) (n:Nat):Bool:=(P.info? t).map (·.size)==some n
def MJ (P:Program) (t:TypeId) (b:Bool):Bool :=
 match P.underlying t with
 | some (.struct _)=>b
 | some (.array _ _)=>b
 | some _=>!b
 | none=>false
theorem In {t:TypeId} {n:Nat} (h:Vh P t n=true):(P.info? t).map (·.size)=some n:=by simpa [Vh] using h
theorem QX {t:TypeId} (h:MJ P t true=true):∃ d,P.underlying t=some d/\d.isRow=true:=by
 unfold MJ at h
 cases hu:P.underlying t with
 | none=>simp [hu] at h
 | some d=>refine ⟨d,rfl,?_⟩; rw [hu] at h; cases d<;>simp_all [TypeDesc.isRow]
theorem SQ {t:TypeId} (h:MJ P t false=true):∃ d,P.underlying t=some d/\d.isRow=false:=by
 unfold MJ at h
 cases hu:P.underlying t with
 | none=>simp [hu] at h
 | some d=>refine ⟨d,rfl,?_⟩; rw [hu] at h; cases d<;>simp_all [TypeDesc.isRow]
theorem Lt {b o:Nat} {t:TypeId} {u:Value} (hc:w.cell? ⟨b,o,none⟩=some u) (ht:MJ P t false=true) :
  (loadVar t ⟨b,o,none⟩).run P w=.ok u w:=by
 obtain ⟨d,hu,hd⟩:=SQ ht
 have hagg:(isAgg t).run P w=.ok false w:=by
  unfold isAgg
  rw [Sem.run_bind,run_underlying hu w]
  cases d<;>simp_all [TypeDesc.isRow]
 simp [loadVar,Sem.run_bind,hagg,run_load,hc]
theorem UI {w w2:World} {b o:Nat} {vs:List Value} (h:w.rangeAt b o vs) (e:w2.heap[b]? = w.heap[b]?):w2.rangeAt b o vs:=by
 intro j u hu
 have:=h j u hu
 simp only [World.cell?] at this ⊢
 rw [e]
 exact this
theorem UJ {s:St} {a:AV} {v:Value} {cs:List AV} {off:Nat} (hs:SR H φ s.st w) (hv:VC H φ s.st a v) (h:s.behind a=some (cs,off))
  {n:Option Nat} (hn:off+n.getD 1<=cs.length) {t:TypeId} (ht:(match n with | some k=>Vh P t k&&MJ P t true | none=>MJ P t false)=true) :
  ∃ u,(∀ w2:World,(∀ b,BQ v b->w2.heap[b]? = w.heap[b]?)->(Instr.loadAt t v).run P w2=.ok u w2)/\VA H φ s.st (part cs off n) u:=by
 obtain ⟨b,o,vs,rfl,h1,h2⟩:=NE hs hv h
 cases n with
 | some k =>
  simp only [AD] at ht
  simp only [Option.getD_some] at hn
  obtain ⟨d,hu,hd⟩:=QX ht.2
  have h3:=(h1.drop off).take k
  have hl:((vs.drop off).take k).length=k:=by
   have:=h1.length
   simp only [List.length_take,List.length_drop]
   omega
  have hr:w.rangeAt b (o+off) ((vs.drop off).take k):=by
   intro j u hu
   rw [BB] at hu
   split at hu
   ·rw [Ba] at hu
    have:=h2 _ _ hu
    rwa [<- Nat.add_assoc] at this
   ·cases hu
  refine ⟨_,fun w2 h2=>run_loadAt_mid w2 b (o+off) t _ d (UI hr (h2 b rfl)) hu hd (by rw [hl]; exact In ht.1),?_⟩
  exact ⟨_,rfl,by simpa using h3⟩
 | none =>
  simp only [Option.getD_none] at hn
  obtain ⟨x,hx⟩:∃ x,cs[off]? = some x:=⟨cs[off]'(by omega),by simp⟩
  obtain ⟨u,hu,hf⟩:=h1.get off x hx
  have hc:=h2 off u hu
  refine ⟨u,fun w2 hw2=>?_,?_⟩
  ·have hc2:w2.cell? ⟨b,o+off,none⟩=some u:=by
    simp only [World.cell?] at hc ⊢
    rw [hw2 b rfl]
    exact hc
   simp only [Instr.loadAt,Instr.sureAddr,Sem.run_bind,Sem.run_pure,Result.andThen_ok,Lt hc2 ht]
  ·have e:part cs off none=x:=by
    simp only [part]
    rw [List.headD_eq_head?_getD,List.head?_drop,hx]
    rfl
   rw [e]
   exact VA.of_VC hf
theorem RK {s:St} {a:AV} {v:Value} {cs:List AV} {off:Nat} (hs:SR H φ s.st w) (hv:VC H φ s.st a v) (h:s.behind a=some (cs,off))
  {n:Option Nat} (hn:off+n.getD 1<=cs.length) {t:TypeId} (ht:(match n with | some k=>Vh P t k&&MJ P t true | none=>MJ P t false)=true) :
  ∃ u,(Instr.loadAt t v).run P w=.ok u w/\VA H φ s.st (part cs off n) u:=by
 obtain ⟨b,o,vs,rfl,h1,h2⟩:=NE hs hv h
 cases n with
 | some k =>
  simp only [AD] at ht
  simp only [Option.getD_some] at hn
  obtain ⟨d,hu,hd⟩:=QX ht.2
  have h3:=(h1.drop off).take k
  have hl:((vs.drop off).take k).length=k:=by
   have:=h1.length
   simp only [List.length_take,List.length_drop]
   omega
  have hr:w.rangeAt b (o+off) ((vs.drop off).take k):=by
   intro j u hu
   rw [BB] at hu
   split at hu
   ·rw [Ba] at hu
    have:=h2 _ _ hu
    rwa [<- Nat.add_assoc] at this
   ·cases hu
  refine ⟨_,run_loadAt_mid w b (o+off) t _ d hr hu hd (by rw [hl]; exact In ht.1),?_⟩
  exact ⟨_,rfl,by simpa using h3⟩
 | none =>
  simp only [Option.getD_none] at hn
  obtain ⟨x,hx⟩:∃ x,cs[off]? = some x:=⟨cs[off]'(by omega),by simp⟩
  obtain ⟨u,hu,hf⟩:=h1.get off x hx
  have hc:=h2 off u hu
  refine ⟨u,?_,?_⟩
  ·simp only [Instr.loadAt,Instr.sureAddr,Sem.run_bind,Sem.run_pure,Result.andThen_ok,Lt hc ht]
  ·have e:part cs off none=x:=by
    simp only [part]
    rw [List.headD_eq_head?_getD,List.head?_drop,hx]
    rfl
   rw [e]
   exact VA.of_VC hf
end Go.Proofs.Ytffahmnodgnohaa.Core

namespace Go.Proofs.Ytffahmnodgnohaa.Core
open Go
structure Fr (mv m0:Nat) (H0:HP) (φ0:BF) (w0:World) (H:HP) (φ:BF) (st:List AH) (w:World):Prop where
 os:w.os=w0.os
 tape:w.tape=w0.tape
 output:w.output=w0.output
 size:w0.heap.size<=w.heap.size
 old:∀ b,b<w0.heap.size->(∀ j,j<m0->¬BQ (φ0 j) b)->w.heap[b]? = w0.heap[b]?
 same:∀ j,j<mv->hdr (φ j)=hdr (φ0 j)
 new:∀ i bi,st[i]? = some bi->bi.live=true->∀ b,BQ (φ i) b->w0.heap.size<=b\/∃ j,j<m0/\BQ (φ0 j) b
 vars:∀ j,j<mv->AL st j=true
 frz:∀ b,b<w0.heap.size->(∀ j,j<m0->¬BQ (φ0 j) b)->H b=H0 b
structure AP (H:HP) (φ:BF) (st:List AH) (w:World) (H':HP) (φ':BF) (st':List AH) (w':World):Prop where
 le:H.le H'
 sr:SR H' φ' st' w'
 fr:∀ mv m0 H0 φ0 w0,Fr mv m0 H0 φ0 w0 H φ st w->Fr mv m0 H0 φ0 w0 H' φ' st' w'
variable {H H':HP} {φ:BF} {st:List AH} {w w':World}
theorem AP.refl (h:SR H φ st w):AP H φ st w H φ st w:=⟨HP.le_refl H,h,fun _ _ _ _ _ h=>h⟩
theorem AP.trans {H1 H2 H3:HP} {φ1 φ2 φ3:BF} {st1 st2 st3:List AH} {w1 w2 w3:World} (h:AP H1 φ1 st1 w1 H2 φ2 st2 w2) (g:AP H2 φ2 st2 w2 H3 φ3 st3 w3) :
  AP H1 φ1 st1 w1 H3 φ3 st3 w3:=⟨HP.le_trans h.le g.le,g.sr,fun mv m H0 φ0 w0 f=>g.fr mv m H0 φ0 w0 (h.fr mv m H0 φ0 w0 f)⟩
theorem AP.grow (h:SR H φ st w) (hg:w.grownBy w' none):AP H φ st w H φ st w' where
 le:=HP.le_refl H
 sr:=h.grow hg
 fr mv m0 H0 φ0 w0 f:=⟨hg.os.trans f.os,hg.tape.trans f.tape,hg.output.trans f.output,Nat.le_trans f.size hg.size,
  fun b hb hn=>(hg.block b (Nat.lt_of_lt_of_le hb f.size) (by simp)).trans (f.old b hb hn),f.same,f.new,f.vars,f.frz⟩
theorem AP.push (h:SR H φ st w) {v:Value} {bx:AH} (hg:w.grownBy w' none) (hb:Ee H w' v bx) (hn:bx.live=true->∀ b,BQ v b->w.heap.size<=b)
  (hc:∀ (cs:List AV),bx=AH.var cs->∀ (o i:Nat),cs[o]? = some (AV.row i)->(AE st i).isSome=true/\∃ b,v=.pointer (some ⟨b,0,none⟩)/\w'.cell? ⟨b,o,none⟩=some (hdr (φ i))) :
  AP H φ st w H (fun i=>if i=st.length then v else φ i) (st++[bx]) w' where
 le:=HP.le_refl H
 sr:=(h.grow hg).push hb (fun hl b hb'=>h.fresh (hn hl b hb')) hc
 fr mv m0 H0 φ0 w0 f:=by
  refine ⟨hg.os.trans f.os,hg.tape.trans f.tape,hg.output.trans f.output,Nat.le_trans f.size hg.size,
   fun b hb hn=>(hg.block b (Nat.lt_of_lt_of_le hb f.size) (by simp)).trans (f.old b hb hn),fun j hj=>?_,fun i bi hbi hl b hb'=>?_,fun j hj=>?_,f.frz⟩
  ·have:=GZ (f.vars j hj)
   rw [if_neg (by omega)]
   exact f.same j hj
  ·rcases Nat.lt_trichotomy i st.length with e | e | e
   ·rw [AZ e] at hbi
    simp only [Nat.ne_of_lt e,if_false] at hb'
    exact f.new i bi hbi hl b hb'
   ·subst e
    simp at hbi
    subst hbi
    simp only [if_true] at hb'
    exact .inl (Nat.le_trans f.size (hn hl b hb'))
   ·rw [Cb (by simp; omega)] at hbi; cases hbi
  ·have:=f.vars j hj
   have hl:=GZ this
   unfold AL at this ⊢
   rw [AZ hl]
   exact this
theorem AP.updateG (h:SR H φ st w) {id:Nat} {bx bx':AH} {v':Value} (hid:st[id]? = some bx) (hl:bx.live=true) {row:Option Nat} (hg:w.grownBy w' row) (hrow:∀ b,row=some b->BQ (φ id) b)
  (hb:Ee H w' v' bx') (hn:∀ b,BQ v' b->BQ (φ id) b\/w.heap.size<=b) (hsame:(bx'.hold=true/\hdr v'=hdr (φ id))\/AL st id=false)
  (hr:∀ (k:Nat) (cs:List AV),st[k]? = some (AH.var cs)->∀ (o:Nat),cs[o]? = some (AV.row id)->hdr v'=hdr (φ id)/\(AE (st.set id bx') id).isSome=true)
  (hc:∀ (cs:List AV),bx'=AH.var cs->∀ (o i:Nat),cs[o]? = some (AV.row i)->i≠id/\(AE st i).isSome=true/\∃ b,v'=.pointer (some ⟨b,0,none⟩)/\w'.cell? ⟨b,o,none⟩=some (hdr (φ i))) :
  AP H φ st w H (fun i=>if i=id then v' else φ i) (st.set id bx') w' where
 le:=HP.le_refl H
 sr:=h.updateG hid hl hg hrow hb hn hr hc
 fr mv m0 H0 φ0 w0 f:=by
  have hlt:id<st.length:=(AT.1 hid).1
  have hm:AL st id=false->mv<=id:=fun e=>by
   rcases BI id mv with hi | hi
   ·have:=f.vars id hi; rw [e] at this; cases this
   ·exact hi
  refine ⟨hg.os.trans f.os,hg.tape.trans f.tape,hg.output.trans f.output,Nat.le_trans f.size hg.size,fun b hb' hn'=>?_,fun j hj=>?_,fun i bi hbi hli b hb'=>?_,fun j hj=>?_,f.frz⟩
  ·rw [hg.block b (Nat.lt_of_lt_of_le hb' f.size) (fun e=>?_)]
   ·exact f.old b hb' hn'
   ·rcases f.new id bx hid hl b (hrow _ e.symm) with g | ⟨j,g1,g2⟩
    ·omega
    ·exact hn' j g1 g2
  ·by_cases e:j=id
   ·subst e
    rcases hsame with ⟨_,e2⟩ | e2
    ·rw [if_pos rfl,e2]; exact f.same j hj
    ·have:=hm e2; omega
   ·rw [if_neg e]; exact f.same j hj
  ·by_cases e:i=id
   ·subst e
    simp only [if_true] at hb'
    rcases hn b hb' with e2 | e2
    ·exact f.new i bx hid hl b e2
    ·exact .inl (Nat.le_trans f.size e2)
   ·rw [AU,if_neg (Ne.symm e)] at hbi
    simp only [e,if_false] at hb'
    exact f.new i bi hbi hli b hb'
  ·by_cases e:j=id
   ·subst e
    rcases hsame with ⟨e2,_⟩ | e2
    ·unfold AL; rw [AU]; simp [hlt,e2]
    ·have:=hm e2; omega
   ·have:=f.vars j hj
    unfold AL at this ⊢
    rw [AU,if_neg (Ne.symm e)]
    exact this
theorem AP.update (h:SR H φ st w) {id:Nat} {bx bx':AH} {v':Value} (hid:st[id]? = some bx) (hl:bx.live=true) (hg:w.grownBy w' (Dc (φ id)))
  (hb:Ee H w' v' bx') (hn:∀ b,BQ v' b->BQ (φ id) b\/w.heap.size<=b) (hsame:(bx'.hold=true/\hdr v'=hdr (φ id))\/AL st id=false)
  (hr:∀ (k:Nat) (cs:List AV),st[k]? = some (AH.var cs)->∀ (o:Nat),cs[o]? = some (AV.row id)->hdr v'=hdr (φ id)/\(AE (st.set id bx') id).isSome=true)
  (hc:∀ (cs:List AV),bx'=AH.var cs->∀ (o i:Nat),cs[o]? = some (AV.row i)->i≠id/\(AE st i).isSome=true/\∃ b,v'=.pointer (some ⟨b,0,none⟩)/\w'.cell? ⟨b,o,none⟩=some (hdr (φ i))) :
  AP H φ st w H (fun i=>if i=id then v' else φ i) (st.set id bx') w':=AP.updateG h hid hl hg (fun _ e=>.of e) hb hn hsame hr hc
theorem AP.freeze (h:SR H φ st w) {id:Nat} {t:TypeId} {K:Kd} {xs:List K.T} (hp:K.plain=true) (hid:st[id]? = some (.rows t K xs)) :
  ∃ H',AP H φ st w H' φ (st.set id (.frz K xs)) w/\MC (C4 H' K) K.sz H' xs (hdr (φ id))/\∀ b,¬BQ (φ id) b->H' b=H b:=by
 obtain ⟨H',h1,h2,h3,h4⟩:=h.freeze hp hid
 have hlt:id<st.length:=(AT.1 hid).1
 refine ⟨H',⟨h1,h2,fun mv m0 H0 φ0 w0 f=>⟨f.os,f.tape,f.output,f.size,f.old,f.same,fun i bi hbi hli=>?_,fun j hj=>?_,fun b hb hn=>?_⟩⟩,h3,h4⟩
 ·by_cases e:i=id
  ·subst e
   rw [AU] at hbi
   simp [hlt] at hbi
   subst hbi
   cases hli
  ·rw [AU,if_neg (Ne.symm e)] at hbi
   exact f.new i bi hbi hli
 ·have hv:=f.vars j hj
  by_cases e:j=id
  ·subst e; unfold AL at hv; rw [hid] at hv; cases hv
  ·unfold AL at hv ⊢
   rw [AU,if_neg (Ne.symm e)]
   exact hv
 ·rw [h4 b fun e=>?_]
  ·exact f.frz b hb hn
  ·rcases f.new id _ hid rfl b e with g | ⟨j,g1,g2⟩
   ·omega
   ·exact hn j g1 g2
theorem AP.kill (h:SR H φ st w) (ids:List Nat):AP H φ st w H φ (st.map (AH.kill ids)) w where
 le:=HP.le_refl H
 sr:=h.kill ids
 fr mv m0 H0 φ0 w0 f:=by
  refine ⟨f.os,f.tape,f.output,f.size,f.old,f.same,fun i bi hbi hli=>?_,fun j hj=>?_,f.frz⟩
  ·rw [BT] at hbi
   cases hb:st[i]? with
   | none=>rw [hb] at hbi; cases hbi
   | some b0 =>
    rw [hb] at hbi
    cases hbi
    exact f.new i b0 hb (by cases b0<;>exact hli)
  ·rw [Cs (AN ids)]; exact f.vars j hj
theorem AP.pick (h:SR H φ st w) {φ2:BF} {st2:List AH} (μ:Nat->Nat) (hb:∀ (k:Nat) (b2:AH),st2[k]? = some b2->Ee H w (φ2 k) b2)
  (hl:∀ (k:Nat) (b2:AH),st2[k]? = some b2->b2.live=true->(∀ b,¬BQ (φ2 k) b)\/∃ b,st[μ k]? = some b/\b.live=true/\φ2 k=φ (μ k))
  (inj:∀ (k k':Nat) (b2 b2':AH),st2[k]? = some b2->st2[k']? = some b2'->b2.live=true->b2'.live=true->(∃ b,BQ (φ2 k) b)->(∃ b,BQ (φ2 k') b)->μ k=μ k'->k=k')
  (hc:∀ (id:Nat) (cs:List AV),st2[id]? = some (AH.var cs)->∀ (o i:Nat),cs[o]? = some (AV.row i)->(AE st2 i).isSome=true/\∃ b,φ2 id=.pointer (some ⟨b,0,none⟩)/\w.cell? ⟨b,o,none⟩=some (hdr (φ2 i))) :
  SR H φ2 st2 w:=by
 refine ⟨h.hp,hb,fun i j bi bj hi hj li lj hij b hbi hbj=>?_,fun i bi hi li b hbi=>?_,hc,h.tb⟩
 ·rcases hl i bi hi li with e | ⟨b1,g1,g2,g3⟩
  ·exact (e _ hbi).elim
  rcases hl j bj hj lj with e | ⟨b2,k1,k2,k3⟩
  ·exact (e _ hbj).elim
  have hne:μ i≠μ j:=fun e=>hij (inj i j bi bj hi hj li lj ⟨b,hbi⟩ ⟨b,hbj⟩ e)
  rw [g3] at hbi
  rw [k3] at hbj
  exact h.sep _ _ b1 b2 g1 k1 g2 k2 hne b hbi hbj
 ·rcases hl i bi hi li with e | ⟨b1,g1,g2,g3⟩
  ·exact (e _ hbi).elim
  rw [g3] at hbi
  exact h.out _ b1 g1 g2 b hbi
theorem AP.ghost (h:SR H φ st w) {φ2:BF} {st2:List AH} (μ:Nat->Nat) (hsr:SR H φ2 st2 w)
  (hl:∀ (k:Nat) (b2:AH),st2[k]? = some b2->b2.live=true->(∀ b,¬BQ (φ2 k) b)\/∃ b,st[μ k]? = some b/\b.live=true/\φ2 k=φ (μ k))
  (hv:∀ j,AL st j=true->hdr (φ2 j)=hdr (φ j)/\AL st2 j=true):AP H φ st w H φ2 st2 w where
 le:=HP.le_refl H
 sr:=hsr
 fr mv m0 H0 φ0 w0 f:=by
  refine ⟨f.os,f.tape,f.output,f.size,f.old,fun j hj=>(hv j (f.vars j hj)).1.trans (f.same j hj),fun i bi hi li b hb=>?_,fun j hj=>(hv j (f.vars j hj)).2,f.frz⟩
  rcases hl i bi hi li with e | ⟨b1,g1,g2,g3⟩
  ·exact (e _ hb).elim
  ·rw [g3] at hb
   exact f.new _ b1 g1 g2 b hb
theorem Ii {s s':St} {a a':AV} {v:Value} (hs:SR H φ s.st w) (hv:VC H φ s.st a v) (h:s.keep a=some (a',s')) :
  ∃ H',AP H φ s.st w H' φ s'.st w/\A_ φ s.st φ s'.st none/\VF H' a' v/\s'.fr=s.fr/\s'.st.length=s.st.length:=by
 cases a with
 | int k n=>cases h; exact ⟨H,AP.refl hs,A_.refl _ _ _,hv,rfl,rfl⟩
 | bool b=>cases h; exact ⟨H,AP.refl hs,A_.refl _ _ _,hv,rfl,rfl⟩
 | str b=>cases h; exact ⟨H,AP.refl hs,A_.refl _ _ _,hv,rfl,rfl⟩
 | nil=>cases h; exact ⟨H,AP.refl hs,A_.refl _ _ _,hv,rfl,rfl⟩
 | lst K xs=>cases h; exact ⟨H,AP.refl hs,A_.refl _ _ _,hv,rfl,rfl⟩
 | fn f caps =>
  cases caps with
  | nil=>cases h; exact ⟨H,AP.refl hs,A_.refl _ _ _,hv,rfl,rfl⟩
  | cons _ _=>cases h
 | clo f K x=>cases h; exact ⟨H,AP.refl hs,A_.refl _ _ _,hv,rfl,rfl⟩
 | row id =>
  simp only [St.keep] at h
  obtain ⟨e,_⟩:=hv
  subst e
  cases hb:s.st[id]? with
  | none=>rw [hb] at h; cases h
  | some bx =>
   rw [hb] at h
   cases bx with
   | rows t K xs =>
    simp only at h
    split at h
    case isFalse=>cases h
    rename_i hp
    cases h
    obtain ⟨H',h1,h3,_⟩:=AP.freeze hs hp hb
    exact ⟨H',h1,PR hb,h3,rfl,by simp⟩
   | frz K xs =>
    cases h
    exact ⟨H,AP.refl hs,A_.refl _ _ _,(hs.box id _ hb).1,rfl,rfl⟩
   | mrow t K xs=>cases h
   | byt t xs=>cases h
   | hole m t K xs i q=>cases h
   | var cs=>cases h
   | dead=>cases h
 | _=>cases h
theorem Ia:∀ {aw aw':List AV} {s s':St} {H:HP} {vs:List Value},SR H φ s.st w->AX (VC H φ s.st) aw vs->s.keepAll aw=some (aw',s') ->
  ∃ H',AP H φ s.st w H' φ s'.st w/\A_ φ s.st φ s'.st none/\Ed H' aw' vs/\s'.fr=s.fr/\s'.st.length=s.st.length
 | [],aw',s,s',H,vs,hs,hv,h=>by
  cases h
  cases hv
  exact ⟨H,AP.refl hs,A_.refl _ _ _,rfl,rfl,rfl⟩
 | a::aw,aw',s,s',H,vs,hs,hv,h=>by
  obtain ⟨v,r,rfl,h1,h2⟩:=hv
  simp only [St.keepAll] at h
  cases hk:s.keep a with
  | none=>rw [hk] at h; cases h
  | some x =>
   obtain ⟨a',s1⟩:=x
   rw [hk] at h
   simp only [Z] at h
   obtain ⟨H1,g1,k1,f1,e1,n1⟩:=Ii hs h1 hk
   cases hq:s1.keepAll aw with
   | none=>rw [hq] at h; cases h
   | some y =>
    obtain ⟨b',s2⟩:=y
    rw [hq] at h
    cases h
    obtain ⟨H2,g2,k2,f2,e2,n2⟩:=Ia g1.sr (h2.imp fun _ _ h=>h.mono g1.le k1) hq
    exact ⟨H2,g1.trans g2,k1.trans k2,⟨v,r,rfl,f1.mono g2.le,f2⟩,e2.trans e1,n2.trans n1⟩
theorem F5 {a:AV} {aw':List AV} {s s':St} {v:Value} (hs:SR H φ s.st w) (hv:VA H φ s.st a v) (h:s.keepAll a.cells=some (aw',s')) :
  ∃ H',AP H φ s.st w H' φ s'.st w/\A_ φ s.st φ s'.st none/\Ed H' aw' v.cells.toList/\s'.fr=s.fr/\s'.st.length=s.st.length:=by
 rcases hv.cases with ⟨cs,arr,rfl,rfl,hc⟩ | ⟨vs,arr,rfl,_,_⟩ | hc
 ·exact Ia hs hc h
 ·simp [AV.cells,St.keepAll,St.keep] at h
 ·have hcell:a.cells=[a]:=by
   cases a<;>first | rfl | exact hc.elim
  rw [hcell] at h
  obtain ⟨H',g,k,f,e,n⟩:=Ia (vs:=[v]) hs (show AX (VC H φ s.st) [a] [v] from ⟨v,[],rfl,hc,rfl⟩) h
  refine ⟨H',g,k,?_,e,n⟩
  cases aw' with
  | nil=>cases f
  | cons b bs =>
   obtain ⟨v',r,e1,e2,e3⟩:=f
   cases e1
   rw [e2.cells]
   exact ⟨v,[],rfl,e2,e3⟩
theorem VF.oneCell {a:AV} {v:Value} (h:VF H a v):v.oneCell'=true:=by
 cases a with
 | int k n=>simp only [VF] at h; subst h; rfl
 | bool b=>simp only [VF] at h; subst h; rfl
 | str s=>simp only [VF] at h; subst h; rfl
 | nil=>simp only [VF] at h; subst h; rfl
 | lst K xs=>obtain ⟨a,cap,e,_⟩:=h; subst e; rfl
 | fn f caps=>obtain ⟨_,e⟩:=h; subst e; rfl
 | clo f K x=>obtain ⟨b,o,c,el,fz,e,_⟩:=h; subst e; rfl
 | _=>exact h.elim
theorem Ed.oneCell:∀ {aw:List AV} {vs:List Value},Ed H aw vs->∀ v∈vs,v.oneCell'=true
 | [],_,h,v,hv=>by cases h; cases hv
 | _::_,_,⟨u,r,e,h,hr⟩,v,hv=>by
  subst e
  cases hv with
  | head=>exact h.oneCell
  | tail _ hm=>exact Ed.oneCell hr v hm
end Go.Proofs.Ytffahmnodgnohaa.Core

namespace Go.Proofs.Ytffahmnodgnohaa.Core
open Go
variable {H:HP} {φ:BF} {st:List AH} {w:World} {P:Program}
theorem G2:∀ (aw cs:List AV) (o:Nat),o+aw.length<=cs.length->Ap cs o aw=cs.take o++aw++cs.drop (o+aw.length)
 | [],cs,o,_=>by simp [Ap]
 | a::aw,cs,o,h=>by
  simp only [List.length_cons] at h
  simp only [Ap]
  rw [G2 aw (cs.set o a) (o+1) (by simp; omega)]
  have ho:o<cs.length:=by omega
  have e1:(cs.set o a).take (o+1)=cs.take o++[a]:=by
   apply List.ext_getElem?
   intro i
   rcases Nat.lt_trichotomy i o with e | e | e
   ·simp [BB,List.getElem?_append,e,Nat.lt_succ_of_lt e,AU,Nat.ne_of_gt e,show i<min o cs.length by omega]
   ·subst e; simp [BB,List.getElem?_append,AU,ho,show ¬ i<min i cs.length by omega,show i-min i cs.length=0 by omega]
   ·rw [Cb (by simp; omega),Cb (by simp; omega)]
  have e2:(cs.set o a).drop (o+1+aw.length)=cs.drop (o+(aw.length+1)):=by
   apply List.ext_getElem?
   intro i
   simp only [Ba,AU]
   rw [if_neg (by omega)]
   congr 1
   omega
  rw [e1,e2]
  simp
theorem Ed.splice {aw cs:List AV} {vs us:List Value} {o:Nat} (h:Ed H cs us) (g:Ed H aw vs) (ho:o+aw.length<=cs.length) :
  Ed H (Ap cs o aw) (us.take o++vs++us.drop (o+vs.length)):=by
 rw [G2 aw cs o ho,g.length]
 exact ((h.take o).append g).append (h.drop _)
theorem BR {α:Type} (l vs:List α) (o k:Nat) (h:o+vs.length<=l.length) :
  (l.take o++vs++l.drop (o+vs.length))[k]? = if k<o then l[k]? else if k<o+vs.length then vs[k-o]? else l[k]? := by
 rcases BI k o with h1 | h1
 ·rw [if_pos h1,CL,AZ (by simp; omega),BB,if_pos h1]
 ·rw [if_neg (by omega),CL,BG (by simp; omega)]
  simp only [List.length_take,Nat.min_eq_left (show o<=l.length by omega)]
  rcases BI k (o+vs.length) with h2 | h2
  ·rw [if_pos h2,AZ (by omega)]
  ·rw [if_neg (by omega),BG (by omega),Ba]
   congr 1
   omega
theorem CP {α:Type} (l vs:List α) (o:Nat) (h:o+vs.length<=l.length):(l.take o++vs++l.drop (o+vs.length)).length=l.length:=by
 simp; omega
theorem Io:∀ (K:Kd) (x:K.T),(K.enc x).length=K.sz
 | .int _,_=>rfl
 | .bool,_=>rfl
 | .str,_=>rfl
 | .slice _,_=>rfl
 | .pair a b,x=>by simp [Kd.enc,Kd.sz,Io a,Io b]
 | .own _ _,_=>rfl
 | .ref _,_=>rfl
 | .fun _,_=>rfl
 | .clo _ _,_=>rfl
theorem Ct (w:World) (b:Nat) (cs:Array Value):w.grownBy (w.setRow b cs) (some b) where
 os:=rfl
 tape:=rfl
 output:=rfl
 size:=by simp
 block k _ hne:=setRow_other w b k cs (fun e=>hne (by rw [e]))
theorem Ib {b o:Nat} {t el:TypeId} {v:Value} {cur:Array Value} (hg:w.heap[b]? = some (.cells cur el (0,0))) (hsz:Vh P t v.cells.size=true)
  (hl:o+v.cells.size<=cur.size) (h1:∀ u∈v.cells.toList,u.oneCell'=true) :
  (Instr.storeAt t (.pointer (some ⟨b,o,none⟩)) v).run P w =
   .ok () (w.setRow b (cur.toList.take o++v.cells.toList++cur.toList.drop (o+v.cells.toList.length)).toArray):=by
 have:=run_storeCells_at P b o el v.cells.toList 0 cur w hg (by simpa using hl) h1
 have hs:=In hsz
 cases hq:P.info? t with
 | none=>simp [hq] at hs
 | some i =>
  have hs:i.size=v.cells.size:=by simpa [hq] using hs
  simp only [Nat.add_zero] at this
  simp [Instr.storeAt,Instr.sureAddr,storeVar,sizeOf,typeInfo,hq,hs,this]
theorem N0 (w:World) (p:Addr) (v:Value):w.grownBy (w.setCell p v) (some p.block) :=
 ⟨rfl,rfl,rfl,by simp [World.setCell],fun k _ hk=>RowKit.Below.heap_setCell _ _ _ _ (fun e=>hk (by simp [e]))⟩
theorem UK {b o:Nat} {t el:TypeId} {v u:Value} {cur:Array Value} {fz:Nat×Nat} (hg:w.heap[b]? = some (.cells cur el fz)) (hsz:Vh P t v.cells.size=true)
  (hv:v.cells=#[u]) (hl:o<cur.size) (hf:o<fz.1) (h1:u.oneCell'=true) :
  (Instr.storeAt t (.pointer (some ⟨b,o,none⟩)) v).run P w=.ok () (w.setCell ⟨b,o,none⟩ u):=by
 have:=run_storeCells_cells (P:=P) b o [u] 0 w (fun j hj=>by
  have:j=0:=by simpa using hj
  subst this
  simp [World.cell?,hg,hl]) (fun j hj=>by
  have:j=0:=by simpa using hj
  subst this
  obtain ⟨lo,hi⟩:=fz
  simp only [World.frozen?,hg]
  simp only [Nat.add_zero] at hf ⊢
  simp; omega) (by simpa using h1)
 have hs:=In hsz
 cases hq:P.info? t with
 | none=>simp [hq] at hs
 | some i =>
  have hs:i.size=v.cells.size:=by simpa [hq] using hs
  rw [hv] at hs
  simp only [Nat.add_zero] at this
  simp [Instr.storeAt,Instr.sureAddr,storeVar,sizeOf,typeInfo,hq,hs,hv,this,World.setCells]
theorem Tq (hs:SR H φ st w) {id:Nat} (h:(AE st id).isSome=true):∃ a n c,hdr (φ id)=.slice a n c:=by
 unfold AE at h
 split at h
 ·rename_i t K xs hb
  obtain ⟨a,c,e⟩:=Aj.slice (hs.box id _ hb)
  exact ⟨_,_,_,e⟩
 ·rename_i K xs hb
  obtain ⟨⟨a,cap,e,_⟩,_⟩:=hs.box id _ hb
  rw [e]; exact ⟨_,_,_,rfl⟩
 ·rename_i t K xs hb
  obtain ⟨a,c,e⟩:=Aj.slice (hs.box id _ hb)
  exact ⟨_,_,_,e⟩
 ·rename_i t xs hb
  obtain ⟨g,cap,e,_⟩:=Ut.flat (hs.box id _ hb)
  exact ⟨_,_,_,by rw [e]; rfl⟩
 ·rename_i m t K xs i q hb
  obtain ⟨a,c,e⟩:=Aj.slice (hs.box id _ hb)
  exact ⟨_,_,_,e⟩
 ·cases h
theorem SS {st:List AH} (hs:SR H φ st w) {a:AV} {v:Value} (hg:a.good=true) (h:VC H φ st a v):v.oneCell'=true/\v.cells=#[v]:=by
 cases a with
 | row id =>
  obtain ⟨e,hk⟩:=h
  obtain ⟨a,n,c,e2⟩:=Tq hs hk
  rw [e,e2]
  exact ⟨rfl,rfl⟩
 | int k n=>exact ⟨VF.oneCell (H:=H) (a:=.int k n) h,VF.cells (H:=H) (a:=.int k n) h⟩
 | bool b=>exact ⟨VF.oneCell (H:=H) (a:=.bool b) h,VF.cells (H:=H) (a:=.bool b) h⟩
 | str s=>exact ⟨VF.oneCell (H:=H) (a:=.str s) h,VF.cells (H:=H) (a:=.str s) h⟩
 | nil=>exact ⟨VF.oneCell (H:=H) (a:=.nil) h,VF.cells (H:=H) (a:=.nil) h⟩
 | lst K xs=>exact ⟨VF.oneCell (H:=H) (a:=.lst K xs) h,VF.cells (H:=H) (a:=.lst K xs) h⟩
 | fn f caps=>exact ⟨VF.oneCell (H:=H) (a:=.fn f caps) h,VF.cells (H:=H) (a:=.fn f caps) h⟩
 | clo f K x=>exact ⟨VF.oneCell (H:=H) (a:=.clo f K x) h,VF.cells (H:=H) (a:=.clo f K x) h⟩
 | _=>cases hg
theorem Vl {ids:List Nat} {a:AV} (h:(a.kill1 ids).good=true):a.good=true:=by
 cases a with
 | row i=>rfl
 | eptr i j o=>simp only [AV.kill1] at h; split at h<;>cases h
 | _=>first | exact h | cases h
theorem QY {s:St} {v:AV} {x:AV×St} (h:s.keep v=some x):v.good=true:=by
 cases v with
 | fn f caps=>cases caps<;>first | rfl | (simp [St.keep] at h)
 | _=>first | rfl | (simp [St.keep] at h)
theorem PS {s:St} {i:Nat} {v:AV} {x:AV×St×List Nat} (h:s.intoRow i v=some x):v.good=true:=by
 cases v<;>first | rfl | (simp [St.intoRow] at h)
theorem Wq {s:St} {own:Bool} {c v:AV} {x:AV×St×List Nat} (h:s.into own c v=some x):v.good=true:=by
 unfold St.into at h
 split at h
 ·exact PS h
 ·exact PS h
 ·split at h
  ·split at h
   ·rfl
   ·split at h
    ·rename_i hs; cases v<;>first | rfl | exact hs
    ·cases h
  ·cases hk:s.keep v with
   | none=>rw [hk] at h; cases h
   | some y=>exact QY hk
theorem LV:∀ {cs vs:List AV} {s:St} {own:Bool} {x:List AV×St×List Nat},s.intoAll own cs vs=some x->cs.length=vs.length/\x.1.length=vs.length/\∀ v∈vs,v.good=true
 | [],[],s,own,x,h=>by cases h; simp
 | [],_::_,s,own,x,h=>by simp [St.intoAll] at h
 | _::_,[],s,own,x,h=>by simp [St.intoAll] at h
 | c::cs,v::vs,s,own,x,h=>by
  simp only [St.intoAll] at h
  cases h1:s.into own c v with
  | none=>rw [h1] at h; cases h
  | some y =>
   rw [h1] at h
   simp only [Z] at h
   cases h2:y.2.1.intoAll own cs (vs.map (AV.kill1 y.2.2)) with
   | none=>rw [h2] at h; cases h
   | some z =>
    rw [h2] at h
    simp only [Z] at h
    split at h
    ·cases h
    ·cases h
     obtain ⟨l1,l2,l3⟩:=LV h2
     simp only [List.length_map] at l1 l2
     refine ⟨by simp [l1],by simp [l2],fun u hu=>?_⟩
     rcases AQ.1 hu with rfl | hu
     ·exact Wq h1
     ·exact Vl (l3 _ (List.mem_map_of_mem hu))
theorem BU.of_keeps {φ φ':BF} {st st':List AH} (h:A_ φ st φ' st' none):BU φ st φ' st' [] :=
 ⟨fun id _ hd=>let ⟨a,b,c,_⟩:=h id (by simp) hd; ⟨by rw [a],b,c⟩,fun id hv=>let ⟨a,b,c⟩:=h.hold id hv; ⟨by rw [a],b,c⟩⟩
theorem Jo (a b:List Nat) (i:Nat):Az (a++b) i=(Az a i||Az b i):=by
 induction a with
 | nil=>simp [Az]
 | cons x r ih=>simp only [List.cons_append,Az]; split<;>simp [ih]
theorem BU.trans {φ φ' φ'':BF} {st st' st'':List AH} {a b:List Nat} (h:BU φ st φ' st' a) (g:BU φ' st' φ'' st'' b):BU φ st φ'' st'' (a++b):=by
 refine ⟨fun id hn hd=>?_,fun id hv=>?_⟩
 ·rw [Jo,Bool.or_eq_false_iff] at hn
  obtain ⟨h1,h2,h3⟩:=h.1 id hn.1 hd
  obtain ⟨g1,g2,g3⟩:=g.1 id hn.2 (by rw [h2,h3]; exact hd)
  exact ⟨g1.trans h1,g2.trans h2,g3.trans h3⟩
 ·obtain ⟨h1,h2,h3⟩:=h.2 id hv
  obtain ⟨g1,g2,g3⟩:=g.2 id h2
  exact ⟨g1.trans h1,g2,g3.trans h3⟩
theorem VC.kill_mono {H':HP} {φ':BF} {st st':List AH} {ids:List Nat} (hH:H.le H') (hk:BU φ st φ' st' ids) {a:AV} {v:Value} (h:VC H φ st a v):VC H' φ' st' (a.kill1 ids) v :=
 (h.mono hH (A_.refl φ st none)).kill hk
theorem PT {s s':St} {i:Nat} {v a:AV} {ids:List Nat} {u:Value} (hs:SR H φ s.st w) (hv:VC H φ s.st v u) (h:s.intoRow i v=some (a,s',ids)) :
  ∃ φ',AP H φ s.st w H φ' s'.st w/\BU φ s.st φ' s'.st ids/\a=.row i/\(AE s'.st i).isSome=true/\u=hdr (φ' i) /\
   (∀ tmps,Ca H φ s.st s.fr tmps->Ca H φ' s'.st s'.fr tmps):=by
 have rowNot:∀ {t:TypeId} {K:Kd} {xs:List K.T} {k:Nat},s.st[k]? = some (.rows t K xs)->AL s.st k=false:=fun {t K xs k} e=>by simp only [AL,e]; rfl
 cases v with
 | row k =>
  simp only [St.intoRow] at h
  split at h
  ·rename_i e
   cases h
   subst e
   exact ⟨φ,AP.refl hs,.of_keeps (A_.refl _ _ _),rfl,hv.2,hv.1,fun _ h=>h⟩
  ·rename_i hne
   split at h
   ·rename_i t K xs hk
    split at h
    ·rename_i hi
     cases h
     have hki:k≠i:=hne
     have li:i<s.st.length:=by
      rcases BI i s.st.length with h | h
      ·exact h
      ·rw [Cb h] at hi; cases hi
     have hnv:AL s.st i=false:=by
      unfold AL
      cases hb:s.st[i]? with
      | none=>rfl
      | some b=>rw [hb] at hi; cases b<;>first | rfl | cases hi
     have lk:k<s.st.length:=(AT.1 hk).1
     let st2:=((s.st.map (AH.kill [i,k])).set i (.rows t K xs)).set k .dead
     let φ2:BF:=fun j=>if j=i then φ k else φ j
     let μ:Nat->Nat:=fun j=>if j=i then k else j
     have gi:st2[i]? = some (.rows t K xs):=by
      simp only [st2]; rw [AU,if_neg hki,AU]; simp [li]
     have gk:st2[k]? = some .dead:=by
      simp only [st2]; rw [AU]; simp [lk]
     have go:∀ j,j≠i->j≠k->st2[j]? = (s.st.map (AH.kill [i,k]))[j]? := fun j h1 h2=>by
      simp only [st2]; rw [AU,if_neg (Ne.symm h2),AU,if_neg (Ne.symm h1)]
     have hsk:=hs.kill [i,k]
     have hl:∀ j b2,st2[j]? = some b2->b2.live=true->(∀ b,¬BQ (φ2 j) b)\/∃ b,s.st[μ j]? = some b/\b.live=true/\φ2 j=φ (μ j):=by
      intro j b2 hj hlv
      right
      by_cases e1:j=i
      ·subst e1
       exact ⟨_,by simpa [μ] using hk,rfl,by simp [φ2,μ]⟩
      ·by_cases e2:j=k
       ·subst e2; rw [gk] at hj; cases hj; cases hlv
       ·rw [go j e1 e2,BT] at hj
        cases hb:s.st[j]? with
        | none=>rw [hb] at hj; cases hj
        | some b0 =>
         rw [hb] at hj
         cases hj
         exact ⟨b0,by simpa [μ,e1] using hb,by cases b0<;>exact hlv,by simp [φ2,μ,e1]⟩
     have hsr:SR H φ2 st2 w:=by
      refine AP.pick hs μ (fun j b2 hj=>?_) hl (fun j j' b2 b2' hj hj' l1 l2 _ _ e=>?_) (fun j cs hj o q hq=>?_)
      ·by_cases e1:j=i
       ·subst e1
        rw [gi] at hj
        cases hj
        simpa [φ2] using hs.box k _ hk
       ·by_cases e2:j=k
        ·subst e2; rw [gk] at hj; cases hj; trivial
        ·rw [go j e1 e2] at hj
         simpa [φ2,e1] using hsk.box j b2 hj
      ·have nk:∀ j b2,st2[j]? = some b2->b2.live=true->j≠k:=fun j b2 hj l e=>by subst e; rw [gk] at hj; cases hj; cases l
       have n1:=nk j b2 hj l1
       have n2:=nk j' b2' hj' l2
       simp only [μ] at e
       by_cases e1:j=i<;>by_cases e2:j'=i
       ·rw [e1,e2]
       ·rw [if_pos e1,if_neg e2] at e; exact absurd e.symm n2
       ·rw [if_neg e1,if_pos e2] at e; exact absurd e n1
       ·rw [if_neg e1,if_neg e2] at e; exact e
      ·have e1:j≠i:=fun e=>by subst e; rw [gi] at hj; cases hj
       have e2:j≠k:=fun e=>by subst e; rw [gk] at hj; cases hj
       rw [go j e1 e2] at hj
       have hn:=Gb hj hq
       obtain ⟨c1,b,c2,c3⟩:=hsk.cell j cs hj o q hq
       have q1:q≠i:=fun e=>by subst e; simp [Az] at hn
       have q2:q≠k:=fun e=>by subst e; simp [Az] at hn
       refine ⟨?_,b,by simpa [φ2,e1] using c2,by simpa [φ2,q1] using c3⟩
       unfold AE at c1 ⊢
       rw [go q q1 q2]
       exact c1
     have hkb:BU φ s.st φ2 st2 [i,k]:=by
      refine ⟨fun j hn _=>?_,fun j hvj=>?_⟩
      ·have q1:j≠i:=fun e=>by subst e; simp [Az] at hn
       have q2:j≠k:=fun e=>by subst e; simp [Az] at hn
       refine ⟨by simp [φ2,q1],?_,?_⟩
       ·have:AE st2 j=AE (s.st.map (AH.kill [i,k])) j:=by unfold AE; rw [go j q1 q2]
        rw [this,De (AN _)]
       ·have:AS st2 j=AS (s.st.map (AH.kill [i,k])) j:=by unfold AS; rw [go j q1 q2]
        rw [this,Cm (AN _)]
      ·have q1:j≠i:=fun e=>by subst e; rw [hnv] at hvj; cases hvj
       have q2:j≠k:=fun e=>by subst e; rw [rowNot hk] at hvj; cases hvj
       have t1:AL st2 j=AL (s.st.map (AH.kill [i,k])) j:=by unfold AL; rw [go j q1 q2]
       have t2:AS st2 j=AS (s.st.map (AH.kill [i,k])) j:=by unfold AS; rw [go j q1 q2]
       exact ⟨by simp [φ2,q1],by rw [t1,Cs (AN _)]; exact hvj,by rw [t2,Cm (AN _)]⟩
     refine ⟨φ2,AP.ghost hs μ hsr hl (fun j h=>⟨(hkb.2 j h).1,(hkb.2 j h).2.1⟩),hkb,rfl,by unfold AE; rw [gi]; rfl,by simp only [φ2,if_true]; exact hv.1,fun tmps hf=>hf.kill hkb⟩
    ·cases h
   ·cases h
 | nil =>
  simp only [St.intoRow] at h
  split at h
  ·rename_i t K xs hi
   cases h
   have li:i<s.st.length:=(AT.1 hi).1
   let st2:=(s.st.map (AH.kill [i])).set i (.rows t K [])
   let φ2:BF:=fun j=>if j=i then .slice none 0 0 else φ j
   have gi:st2[i]? = some (.rows t K []):=by simp only [st2]; rw [AU]; simp [li]
   have go:∀ j,j≠i->st2[j]? = (s.st.map (AH.kill [i]))[j]? := fun j h1=>by simp only [st2]; rw [AU,if_neg (Ne.symm h1)]
   have hsk:=hs.kill [i]
   have hl:∀ j b2,st2[j]? = some b2->b2.live=true->(∀ b,¬BQ (φ2 j) b)\/∃ b,s.st[j]? = some b/\b.live=true/\φ2 j=φ j:=by
    intro j b2 hj hlv
    by_cases e1:j=i
    ·subst e1; left; simp [φ2,BQ]
    ·right
     rw [go j e1,BT] at hj
     cases hb:s.st[j]? with
     | none=>rw [hb] at hj; cases hj
     | some b0 =>
      rw [hb] at hj
      cases hj
      exact ⟨b0,rfl,by cases b0<;>exact hlv,by simp [φ2,e1]⟩
   have hsr:SR H φ2 st2 w:=by
    refine AP.pick hs id (fun j b2 hj=>?_) hl (fun j j' b2 b2' hj hj' l1 l2 _ _ e=>e) (fun j cs hj o q hq=>?_)
    ·by_cases e1:j=i
     ·subst e1
      rw [gi] at hj
      cases hj
      exact Aj.of_flat (flat:=[]) ⟨by simp,.inl ⟨by simp [φ2],rfl⟩⟩ fun j x hx=>by simp at hx
     ·rw [go j e1] at hj
      simpa [φ2,e1] using hsk.box j b2 hj
    ·have e1:j≠i:=fun e=>by subst e; rw [gi] at hj; cases hj
     rw [go j e1] at hj
     have hn:=Gb hj hq
     obtain ⟨c1,b,c2,c3⟩:=hsk.cell j cs hj o q hq
     have q1:q≠i:=fun e=>by subst e; simp [Az] at hn
     refine ⟨?_,b,by simpa [φ2,e1] using c2,by simpa [φ2,q1] using c3⟩
     unfold AE at c1 ⊢
     rw [go q q1]
     exact c1
   have hkb:BU φ s.st φ2 st2 [i]:=by
    refine ⟨fun j hn _=>?_,fun j hvj=>?_⟩
    ·have q1:j≠i:=fun e=>by subst e; simp [Az] at hn
     refine ⟨by simp [φ2,q1],?_,?_⟩
     ·have:AE st2 j=AE (s.st.map (AH.kill [i])) j:=by unfold AE; rw [go j q1]
      rw [this,De (AN _)]
     ·have:AS st2 j=AS (s.st.map (AH.kill [i])) j:=by unfold AS; rw [go j q1]
      rw [this,Cm (AN _)]
    ·have q1:j≠i:=fun e=>by subst e; rw [rowNot hi] at hvj; cases hvj
     have t1:AL st2 j=AL (s.st.map (AH.kill [i])) j:=by unfold AL; rw [go j q1]
     have t2:AS st2 j=AS (s.st.map (AH.kill [i])) j:=by unfold AS; rw [go j q1]
     exact ⟨by simp [φ2,q1],by rw [t1,Cs (AN _)]; exact hvj,by rw [t2,Cm (AN _)]⟩
   refine ⟨φ2,AP.ghost hs id hsr hl (fun j h=>⟨(hkb.2 j h).1,(hkb.2 j h).2.1⟩),hkb,rfl,by unfold AE; rw [gi]; rfl,by simp only [φ2,if_true]; exact hv,fun tmps hf=>hf.kill hkb⟩
  ·cases h
 | _=>simp [St.intoRow] at h
def MK (H:HP) (φ:BF) (st:List AH) (a:AV) (u:Value):Prop:=(∀ p el,VW H p el a u)/\∀ i,a=.row i->(AE st i).isSome=true/\u=hdr (φ i)
theorem MK.of_VF {a:AV} {u:Value} (h:VF H a u):MK H φ st a u:=⟨fun _ _=>VW.of_VF h,fun i e=>by subst e; exact h.elim⟩
theorem MK.mono {H':HP} {φ':BF} {st':List AH} {ids:List Nat} (hH:H.le H') (hk:BU φ st φ' st' ids) {a:AV} {u:Value} (h:MK H φ st a u) (hn:a.rowIn ids=false):MK H' φ' st' a u :=
 ⟨fun p el=>(h.1 p el).mono hH,fun i e=>by
  subst e
  obtain ⟨h1,h2⟩:=h.2 i rfl
  obtain ⟨k1,k2,_⟩:=hk.1 i hn (.inl h1)
  exact ⟨by rw [k2]; exact h1,h2.trans k1.symm⟩⟩
theorem Wr {s s':St} {own:Bool} {c v a:AV} {ids:List Nat} {u:Value} (hs:SR H φ s.st w) (hv:VC H φ s.st v u) (h:s.into own c v=some (a,s',ids)) :
  ∃ H' φ',AP H φ s.st w H' φ' s'.st w/\BU φ s.st φ' s'.st ids/\MK H' φ' s'.st a u/\(∀ tmps,Ca H φ s.st s.fr tmps->Ca H' φ' s'.st s'.fr tmps):=by
 have row:∀ i,s.intoRow i v=some (a,s',ids)->∃ H' φ',AP H φ s.st w H' φ' s'.st w/\BU φ s.st φ' s'.st ids/\MK H' φ' s'.st a u/\(∀ tmps,Ca H φ s.st s.fr tmps->Ca H' φ' s'.st s'.fr tmps):=by
  intro i h
  obtain ⟨φ',h1,h2,rfl,h4,h5,h6⟩:=PT hs hv h
  exact ⟨H,φ',h1,h2,⟨fun _ _=>trivial,fun j e=>by cases e; exact ⟨h4,h5⟩⟩,h6⟩
 unfold St.into at h
 split at h
 ·exact row _ h
 ·exact row _ h
 ·split at h
  ·split at h
   ·cases h
    exact ⟨H,φ,AP.refl hs,.of_keeps (A_.refl _ _ _),⟨fun _ _=>trivial,fun j e=>by cases e; exact ⟨hv.2,hv.1⟩⟩,fun _ h=>h⟩
   ·split at h
    ·rename_i hsol
     cases h
     exact ⟨H,φ,AP.refl hs,.of_keeps (A_.refl _ _ _),MK.of_VF (hv.solid hsol),fun _ h=>h⟩
    ·cases h
  ·cases hk:s.keep v with
   | none=>rw [hk] at h; cases h
   | some x =>
    obtain ⟨a',s1⟩:=x
    rw [hk] at h
    cases h
    obtain ⟨H1,g1,k1,f1,e1,_⟩:=Ii hs hv hk
    exact ⟨H1,φ,g1,.of_keeps k1,MK.of_VF f1,fun tmps hf=>by rw [e1]; exact hf.mono g1.le k1⟩
theorem PU:∀ {cs vs aw:List AV} {s s':St} {own:Bool} {ids:List Nat} {us:List Value} {H:HP} {φ:BF},SR H φ s.st w->AX (VC H φ s.st) vs us->s.intoAll own cs vs=some (aw,s',ids) ->
  ∃ H' φ',AP H φ s.st w H' φ' s'.st w/\BU φ s.st φ' s'.st ids/\AX (MK H' φ' s'.st) aw us/\(∀ tmps,Ca H φ s.st s.fr tmps->Ca H' φ' s'.st s'.fr tmps)
 | [],[],aw,s,s',own,ids,us,H,φ,hs,hv,h=>by
  cases h
  cases hv
  exact ⟨H,φ,AP.refl hs,.of_keeps (A_.refl _ _ _),rfl,fun _ h=>h⟩
 | [],_::_,aw,s,s',own,ids,us,H,φ,hs,hv,h=>by simp [St.intoAll] at h
 | _::_,[],aw,s,s',own,ids,us,H,φ,hs,hv,h=>by simp [St.intoAll] at h
 | c::cs,v::vs,aw,s,s',own,ids,us,H,φ,hs,hv,h=>by
  obtain ⟨u,r,rfl,hu,hr⟩:=hv
  simp only [St.intoAll] at h
  cases h1:s.into own c v with
  | none=>rw [h1] at h; cases h
  | some y =>
   obtain ⟨a1,s1,i1⟩:=y
   rw [h1] at h
   simp only [Z] at h
   cases h2:s1.intoAll own cs (vs.map (AV.kill1 i1)) with
   | none=>rw [h2] at h; cases h
   | some z =>
    obtain ⟨a2,s2,i2⟩:=z
    rw [h2] at h
    simp only [Z] at h
    split at h
    ·cases h
    ·rename_i hn
     cases h
     obtain ⟨H1,φ1,g1,k1,t1,f1⟩:=Wr hs hu h1
     obtain ⟨H2,φ2,g2,k2,t2,f2⟩:=PU g1.sr (hr.map fun _ _ h=>h.kill_mono g1.le k1) h2
     exact ⟨H2,φ2,g1.trans g2,k1.trans k2,⟨u,r,rfl,t1.mono g2.le k2 (by simpa using hn),t2⟩,fun tmps hf=>f2 tmps (f1 tmps hf)⟩
theorem AX.splice {R:AV->Value->Prop} {aw cs:List AV} {vs us:List Value} {o:Nat} (h:AX R cs us) (g:AX R aw vs) (ho:o+aw.length<=cs.length) :
  AX R (Ap cs o aw) (us.take o++vs++us.drop (o+vs.length)):=by
 rw [G2 aw cs o ho,g.length]
 exact ((h.take o).append g).append (h.drop _)
theorem Tr {s s':St} {a a':AV} (h:s.keep a=some (a',s')) {i:Nat} {b:AH} (hi:s'.st[i]? = some b) (hl:b.live=true):s.st[i]? = some b:=by
 cases a with
 | row id =>
  simp only [St.keep] at h
  split at h
  ·split at h
   ·cases h
    simp only [AU] at hi
    split at hi
    ·split at hi
     ·cases hi; cases hl
     ·cases hi
    ·exact hi
   ·cases h
  ·cases h; exact hi
  ·cases h
 | fn f caps=>cases caps<;>first | (cases h; exact hi) | cases h
 | _=>first | (cases h; exact hi) | cases h
theorem E2:∀ {aw aw':List AV} {s s':St},s.keepAll aw=some (aw',s')->True/\∀ {i:Nat} {b:AH},s'.st[i]? = some b->b.live=true->s.st[i]? = some b
 | [],aw',s,s',h=>by cases h; exact ⟨trivial,fun hi _=>hi⟩
 | a::aw,aw',s,s',h=>by
  simp only [St.keepAll] at h
  cases hk:s.keep a with
  | none=>rw [hk] at h; cases h
  | some x =>
   rw [hk] at h
   simp only [Z] at h
   cases hq:x.2.keepAll aw with
   | none=>rw [hq] at h; cases h
   | some y =>
    rw [hq] at h
    cases h
    exact ⟨trivial,fun hi hl=>Tr hk ((E2 hq).2 hi hl) hl⟩
theorem WE (hs:SR H φ st w) {id b:Nat} {cs:List AV} (hb:st[id]? = some (.var cs)) (e:hdr (φ id)=.pointer (some ⟨b,0,none⟩)):φ id=.pointer (some ⟨b,0,none⟩):=by
 obtain ⟨b',c,el,e3,_⟩:=hs.box id _ hb
 rw [e3] at e ⊢
 exact e
theorem TS {s s':St} {own:Bool} {p:AV} {pv:Value} {aw:List AV} {v:Value} {t:TypeId} {tmps:Array Value} (hs:SR H φ s.st w) (hf:Ca H φ s.st s.fr tmps) (hp:VC H φ s.st p pv)
  (hv:AX (VC H φ s.st) aw v.cells.toList) (h:s.storeAt own p aw=some s') (hsz:Vh P t aw.length=true) (hown:∀ id i off,p=.eptr id i off->Wl s.st id=none) :
  ∃ H' φ' w',(Instr.storeAt t pv v).run P w=.ok () w'/\AP H φ s.st w H' φ' s'.st w'/\Ca H' φ' s'.st s'.fr tmps /\
   ∀ (i:Nat) (bx:AH),s.st[i]? = some bx->bx.live=true->(∀ id,((∃ off,p=.ptr id off)\/∃ j off,p=.eptr id j off)->i≠id)->∀ b,BQ (φ i) b->w'.heap[b]? = w.heap[b]? := by
 have aside:∀ {id i:Nat} {bi bx:AH} {b:Nat} {cs:Array Value},s.st[id]? = some bi->bi.live=true->BQ (φ id) b->s.st[i]? = some bx->bx.live=true->i≠id->∀ b',BQ (φ i) b'->(w.setRow b cs).heap[b']? = w.heap[b']? := by
  intro id i bi bx b cs h1 h2 h3 h4 h5 h6 b' h7
  exact (Ct w b cs).block b' ((hs.box i bx h4).blk_lt h5 h7) (fun e=>by cases e; exact hs.sep i id bx bi h4 h1 h5 h2 h6 _ h7 h3)
 have hlen:v.cells.size=aw.length:=by simpa using hv.length
 cases p with
 | ptr id off =>
  obtain ⟨hva,b,e0,e2⟩:=hp
  simp only [St.storeAt] at h
  cases hb:s.st[id]? with
  | none=>rw [hb] at h; cases h
  | some bx =>
   rw [hb] at h
   cases bx with
   | var cs =>
    simp only at h
    have e1:=WE hs hb e0
    split at h
    ·rename_i hle
     cases hq:s.intoAll own ((cs.drop off).take aw.length) aw with
     | none=>rw [hq] at h; cases h
     | some y =>
      obtain ⟨as1,s1,ids⟩:=y
      rw [hq] at h
      simp only [Z] at h
      split at h
      ·rename_i cs' hb'
       cases h
       obtain ⟨l1,l2,l3⟩:=LV hq
       obtain ⟨H1,φ1,g1,k1,t1,f1⟩:=PU hs hv hq
       obtain ⟨hφ,_,hva1⟩:=k1.2 id (LT hva)
       have hva1:=hva1.trans hva
       have hs1:=g1.sr
       have e3':=WE hs1 hb' (hφ.trans e0)
       obtain ⟨b',c,el,e3,hh,hc⟩:=hs1.box id _ hb'
       rw [e3'] at e3
       cases e3
       have hcl:c.size=cs'.length:=by simpa using hc.length
       have hcl0:cs'.length=cs.length:=by
        obtain ⟨b2,c2,el2,e4,hh2,hc2⟩:=hs.box id _ hb
        rw [e1] at e4
        cases e4
        rw [hh] at hh2
        cases hh2
        have:=hc.length.symm.trans hc2.length
        exact this
       have hlt:id<s1.st.length:=(AT.1 hb').1
       have hone:∀ u∈v.cells.toList,u.oneCell'=true:=fun u hu=>by
        obtain ⟨j,hj,rfl⟩:=Gm hu
        obtain ⟨a,ha,hva⟩:=hv.mem j _ (List.getElem?_eq_getElem hj)
        exact (SS hs (l3 a (List.mem_of_getElem? ha)) hva).1
       have hrun:=Ib (P:=P) (t:=t) (v:=v) hh (by rw [hlen]; exact hsz) (o:=off) (by omega) hone
       have hl2:as1.length=aw.length:=l2
       have hle':off+as1.length<=cs'.length:=by omega
       have hkn:AE s1.st id=none:=by simp only [AE,hb']
       have hfit:off+v.cells.toList.length<=c.toList.length:=by simp only [Array.length_toList]; omega
       have hw':(w.setRow b (c.toList.take off++v.cells.toList++c.toList.drop (off+v.cells.toList.length)).toArray).heap[b]? = some (.cells (c.toList.take off++v.cells.toList++c.toList.drop (off+v.cells.toList.length)).toArray el (0,0)):=setRow_heap w b _ _ el (0,0) hh
       have hst:=AP.update (w':=w.setRow b (c.toList.take off++v.cells.toList++c.toList.drop (off+v.cells.toList.length)).toArray) (v':=φ1 id) (bx':=.var (Ap cs' off as1)) hs1 hb' rfl
        (by rw [e3']; exact Ct w b _)
        ⟨b,_,el,e3',hw',by simp only; exact hc.splice (t1.imp fun _ _ h=>h.1 _ _) hle'⟩
        (fun b hb=>.inl hb) (.inl ⟨rfl,rfl⟩)
        (fun k ck hk o ho=>by have:=(hs1.cell k ck hk o id ho).1; rw [hkn] at this; cases this)
        (fun ck hck o i ho=>by
         cases hck
         have hne:∀ {q},(AE s1.st q).isSome=true->q≠id:=fun {q} g e=>by subst e; rw [hkn] at g; cases g
         have hcell:∀ u,(c.toList.take off++v.cells.toList++c.toList.drop (off+v.cells.toList.length))[o]? = some u ->
           (w.setRow b (c.toList.take off++v.cells.toList++c.toList.drop (off+v.cells.toList.length)).toArray).cell? ⟨b,o,none⟩=some u:=fun u hu=>by
          simp only [World.cell?,hw']
          simpa using hu
         rw [G2 as1 cs' off hle',BR _ _ _ _ hle'] at ho
         have hvl:v.cells.toList.length=as1.length:=by simp only [Array.length_toList]; omega
         by_cases h1:o<off
         ·rw [if_pos h1] at ho
          obtain ⟨c1,b3,c2,c3⟩:=hs1.cell id cs' hb' o i ho
          rw [e3'] at c2
          cases c2
          refine ⟨hne c1,c1,b,e3',hcell _ ?_⟩
          rw [BR _ _ _ _ hfit,if_pos h1]
          simpa [World.cell?,hh] using c3
         ·rw [if_neg h1] at ho
          by_cases h2:o<off+as1.length
          ·rw [if_pos h2] at ho
           obtain ⟨u,hu,htold⟩:=t1.get _ _ ho
           obtain ⟨c1,c2⟩:=htold.2 i rfl
           refine ⟨hne c1,c1,b,e3',hcell _ ?_⟩
           rw [BR _ _ _ _ hfit,if_neg h1,if_pos (by omega),hu,c2]
          ·rw [if_neg h2] at ho
           obtain ⟨c1,b3,c2,c3⟩:=hs1.cell id cs' hb' o i ho
           rw [e3'] at c2
           cases c2
           refine ⟨hne c1,c1,b,e3',hcell _ ?_⟩
           rw [BR _ _ _ _ hfit,if_neg h1,if_neg (by omega)]
           simpa [World.cell?,hh] using c3)
       refine ⟨H1,_,_,by rw [e2]; exact hrun,g1.trans hst,?_,fun i bx hi hl hn b' hb'=>aside hb rfl (by rw [e1]; rfl) hi hl (hn id (.inl ⟨off,rfl⟩)) b' hb'⟩
       refine (f1 tmps hf).mono (HP.le_refl _) (ND ?_ ?_ ?_ rfl)
       ·have e4:(s1.st.set id (AH.var (Ap cs' off as1)))[id]? = some (.var (Ap cs' off as1)):=by rw [AU]; simp [hlt]
        simp only [AE,e4,hb']
       ·have e4:(s1.st.set id (AH.var (Ap cs' off as1)))[id]? = some (.var (Ap cs' off as1)):=by rw [AU]; simp [hlt]
        simp only [AS,e4,hb']
       ·have e4:(s1.st.set id (AH.var (Ap cs' off as1)))[id]? = some (.var (Ap cs' off as1)):=by rw [AU]; simp [hlt]
        simp only [AL,e4,hb']; rfl
      ·cases h
    ·cases h
   | _=>cases h
 | eptr id i off =>
  have hown:=hown id i off rfl
  simp only [St.storeAt,hown] at h
  cases hq:s.keepAll aw with
  | none=>rw [hq] at h; cases h
  | some z =>
  obtain ⟨as1,s1⟩:=z
  rw [hq] at h
  simp only [Z] at h
  obtain ⟨H1,g1,k1,hv,fe,_⟩:=Ia hs hv hq
  have hp:=VC.mono g1.le k1 (a:=.eptr id i off) hp
  have hf:Ca H1 φ s1.st s1.fr tmps:=by rw [fe]; exact hf.mono g1.le k1
  have hs0:=hs
  have hs:=g1.sr
  have hlen:v.cells.size=as1.length:=by simpa using hv.length
  have hsz:Vh P t as1.length=true:=by rw [<- hlen,show v.cells.size=aw.length by assumption]; exact hsz
  obtain ⟨b,n,cap,K,hk,hi,e1,e2⟩:=hp
  cases hb:s1.st[id]? with
  | none=>rw [hb] at h; cases h
  | some bx =>
   rw [hb] at h
   cases bx with
   | rows t0 K' xs =>
    simp only at h
    split at h
    case isFalse=>cases h
    rename_i hoff
    simp only [AE,hb,Af,Prod.mk.injEq] at hk
    obtain ⟨rfl,rfl⟩:=hk
    have hpl:K'.nown=0:=by
     have hb0:=(E2 hq).2 hb rfl
     unfold Wl at hown
     rw [hb0] at hown
     simp only at hown
     split at hown
     ·rename_i hp; exact Kd.plain_ok hp
     ·cases hown
    obtain ⟨flat,ho,hr⟩:=Aj.flat hpl (hs.box id _ hb)
    have e1:φ id=.slice (some ⟨b,0,none⟩) xs.length cap:=by
     obtain ⟨a0,c0,e0⟩:=Aa ho
     rw [e0] at e1 ⊢
     exact e1
    have hlt:id<s1.st.length:=(AT.1 hb).1
    cases hd:K'.dec (Ap (K'.enc (xs.getD i K'.zero)) off as1) with
    | none=>rw [hd] at h; cases h
    | some y =>
     obtain ⟨x',r'⟩:=y
     rw [hd] at h
     simp only [Z,Af] at h
     subst h
     rcases ho.2 with ⟨e3,hn⟩ | ⟨g,cap',cur,e3,_,hg,hc,hm,hcs,ht⟩
     ·rw [e1] at e3; cases e3
     rw [e1] at e3
     simp only [Value.slice.injEq,Af,Addr.mk.injEq] at e3
     obtain ⟨⟨rfl,_⟩,_,rfl⟩:=e3
     have hle1:(i+1)*K'.sz<=xs.length*K'.sz:=Bj _ hi
     have hle2:xs.length*K'.sz<=cap*K'.sz:=Bj _ hc
     rw [Nat.succ_mul] at hle1
     have hvl:v.cells.toList.length=as1.length:=by simpa using hlen
     have hfit:i*K'.sz+off+v.cells.toList.length<=cur.toList.length:=by simp only [Array.length_toList]; omega
     have hfit2:i*K'.sz+off+v.cells.toList.length<=flat.length:=by rw [ho.1]; omega
     have hrun:=Ib (P:=P) (t:=t) (v:=v) hg (by rw [hlen]; exact hsz) (o:=i*K'.sz+off) (by simp only [Array.length_toList] at hfit; rw [hlen]; omega) hv.oneCell
     let flat':=flat.take (i*K'.sz+off)++v.cells.toList++flat.drop (i*K'.sz+off+v.cells.toList.length)
     have hown':(w.setRow b (cur.toList.take (i*K'.sz+off)++v.cells.toList++cur.toList.drop (i*K'.sz+off+v.cells.toList.length)).toArray).ownsRow 0 t0 K'.sz (φ id) (xs.set i x').length flat':=by
      refine ⟨?_,.inr ⟨b,cap,_,?_,Nat.zero_le _,setRow_heap w b _ _ t0 (0,0) hg,by simpa using hc,hm,?_,?_⟩⟩
      ·simp only [flat']
       rw [CP _ _ _ hfit2]
       simpa using ho.1
      ·rw [e1]; simp
      ·simp only [List.size_toArray]
       rw [CP _ _ _ hfit]
       simpa using hcs
      ·simp only [List.length_set]
       apply List.ext_getElem?
       intro k
       simp only [flat']
       rw [BB,BR _ _ _ _ hfit,BR _ _ _ _ hfit2,<- ht]
       simp only [BB]
       by_cases hk1:k<xs.length*K'.sz
       ·simp [hk1]
       ·rw [if_neg hk1]
        simp only [hk1,if_false]
        rw [if_neg (by omega),if_neg (by omega)]
     have hrep':CI H1 K' (xs.set i x') flat':=by
      intro j x hx
      by_cases hji:j=i
      ·subst hji
       rw [AU] at hx
       simp only [hi,if_true,Af] at hx
       subst hx
       have hold:xs[j]? = some (xs.getD j K'.zero):=by simp [List.getD,hi]
       have hseg:=hr j _ hold
       have henc:=Ed.of_rep hseg
       have hsp:=henc.splice hv (by rw [Io]; exact hoff)
       obtain ⟨c1,c2,f1,f2,f3⟩:=Dd K' hsp hd
       have hl1:=f2.length
       have hl2:(((flat.drop (j*K'.sz)).take K'.sz).take off++v.cells.toList++((flat.drop (j*K'.sz)).take K'.sz).drop (off+v.cells.toList.length)).length=K'.sz:=by
        have:=hseg.length
        rw [CP _ _ _ (by rw [this,hvl]; exact hoff)]
        exact this
       have hc2:c2=[]:=by
        have:=congrArg List.length f1
        rw [hl2,List.length_append,hl1] at this
        exact Dk.1 (by omega)
       subst hc2
       rw [List.append_nil] at f1
       have hfinal:((flat'.drop (j*K'.sz)).take K'.sz)=c1:=by
        rw [<- f1]
        apply List.ext_getElem?
        intro k
        have hsl:=hseg.length
        rw [BR _ _ _ _ (by rw [hsl,hvl]; exact hoff)]
        simp only [BB,Ba,flat']
        rw [BR _ _ _ _ hfit2]
        by_cases hk:k<K'.sz
        ·simp only [hk,if_true]
         by_cases h1:k<off
         ·rw [if_pos (by omega),if_pos h1]
         ·rw [if_neg (by omega),if_neg h1]
          by_cases h2:k<off+v.cells.toList.length
          ·rw [if_pos (by omega),if_pos h2]
           congr 1
           omega
          ·rw [if_neg (by omega),if_neg h2]
        ·simp only [hk,if_false]
         rw [if_neg (by omega),if_neg (by omega)]
       rw [hfinal]
       exact f2
      ·rw [AU,if_neg (Ne.symm hji)] at hx
       have hseg:=hr j x hx
       have hj:j<xs.length:=(AT.1 hx).1
       have hfinal:((flat'.drop (j*K'.sz)).take K'.sz)=((flat.drop (j*K'.sz)).take K'.sz):=by
        apply List.ext_getElem?
        intro k
        simp only [BB,Ba,flat']
        rw [BR _ _ _ _ hfit2]
        by_cases hk:k<K'.sz
        ·simp only [hk,if_true]
         rcases Nat.lt_or_gt_of_ne hji with hlt' | hgt'
         ·have:(j+1)*K'.sz<=i*K'.sz:=Bj _ hlt'
          rw [Nat.succ_mul] at this
          rw [if_pos (by omega)]
         ·have:(i+1)*K'.sz<=j*K'.sz:=Bj _ hgt'
          rw [Nat.succ_mul] at this
          rw [if_neg (by omega),if_neg (by omega)]
        ·simp only [hk,if_false]
       rw [hfinal]
       exact hseg
     have e4:(s1.st.set id (AH.rows t0 K' (xs.set i x')))[id]? = some (.rows t0 K' (xs.set i x')):=by rw [AU]; simp [hlt]
     refine ⟨H1,fun i=>if i=id then φ id else φ i,_,by rw [e2]; exact hrun,g1.trans (AP.update hs hb rfl ?_ (Aj.of_flat hown' hrep') (fun b hb=>.inl hb) (.inr (by simp only [AL,hb]; rfl)) ?_ ?_),?_,?_⟩
     rotate_right
     ·intro i' bx' hi' hl' hn' b' hb'
      obtain ⟨_,hbr⟩:=E2 hq
      exact aside (hbr hb rfl) rfl (by rw [e1]; rfl) hi' hl' (hn' id (.inr ⟨i,off,rfl⟩)) b' hb'
     ·rw [e1]; exact Ct w b _
     ·exact fun k cs _ o _=>⟨rfl,by simp only [AE,e4]; rfl⟩
     ·exact fun cs hcs=>by cases hcs
     ·refine hf.mono (HP.le_refl _) (ND ?_ ?_ ?_ rfl)
      ·simp only [AE,e4,hb,List.length_set]
      ·simp only [AS,e4,hb]
      ·simp only [AL,e4,hb]; rfl
   | mrow t0 K' xs =>
    simp only at h
    split at h
    case isFalse=>cases h
    rename_i hoff
    simp only [AE,hb,Af,Prod.mk.injEq] at hk
    obtain ⟨rfl,rfl⟩:=hk
    have hpl:K'.nown=0:=by
     have hb0:=(E2 hq).2 hb rfl
     unfold Wl at hown
     rw [hb0] at hown
     simp only at hown
     split at hown
     ·rename_i hp; exact Kd.plain_ok hp
     ·cases hown
    obtain ⟨flat,ho,hr⟩:=Aj.flat hpl (hs.box id _ hb)
    have e1:φ id=.slice (some ⟨b,0,none⟩) xs.length cap:=by
     obtain ⟨a0,c0,e0⟩:=Aa ho
     rw [e0] at e1 ⊢
     exact e1
    have hlt:id<s1.st.length:=(AT.1 hb).1
    cases hd:K'.dec (Ap (K'.enc (xs.getD i K'.zero)) off as1) with
    | none=>rw [hd] at h; cases h
    | some y =>
     obtain ⟨x',r'⟩:=y
     rw [hd] at h
     simp only [Z,Af] at h
     subst h
     rcases ho.2 with ⟨e3,hn⟩ | ⟨g,cap',cur,e3,_,hg,hc,hm,hcs,ht⟩
     ·rw [e1] at e3; cases e3
     rw [e1] at e3
     simp only [Value.slice.injEq,Af,Addr.mk.injEq] at e3
     obtain ⟨⟨rfl,_⟩,_,rfl⟩:=e3
     have hle1:(i+1)*K'.sz<=xs.length*K'.sz:=Bj _ hi
     have hle2:xs.length*K'.sz<=cap*K'.sz:=Bj _ hc
     rw [Nat.succ_mul] at hle1
     have hvl:v.cells.toList.length=as1.length:=by simpa using hlen
     have hfit:i*K'.sz+off+v.cells.toList.length<=cur.toList.length:=by simp only [Array.length_toList]; omega
     have hfit2:i*K'.sz+off+v.cells.toList.length<=flat.length:=by rw [ho.1]; omega
     have hrun:=Ib (P:=P) (t:=t) (v:=v) hg (by rw [hlen]; exact hsz) (o:=i*K'.sz+off) (by simp only [Array.length_toList] at hfit; rw [hlen]; omega) hv.oneCell
     let flat':=flat.take (i*K'.sz+off)++v.cells.toList++flat.drop (i*K'.sz+off+v.cells.toList.length)
     have hown':(w.setRow b (cur.toList.take (i*K'.sz+off)++v.cells.toList++cur.toList.drop (i*K'.sz+off+v.cells.toList.length)).toArray).ownsRow 0 t0 K'.sz (φ id) (xs.set i x').length flat':=by
      refine ⟨?_,.inr ⟨b,cap,_,?_,Nat.zero_le _,setRow_heap w b _ _ t0 (0,0) hg,by simpa using hc,hm,?_,?_⟩⟩
      ·simp only [flat']
       rw [CP _ _ _ hfit2]
       simpa using ho.1
      ·rw [e1]; simp
      ·simp only [List.size_toArray]
       rw [CP _ _ _ hfit]
       simpa using hcs
      ·simp only [List.length_set]
       apply List.ext_getElem?
       intro k
       simp only [flat']
       rw [BB,BR _ _ _ _ hfit,BR _ _ _ _ hfit2,<- ht]
       simp only [BB]
       by_cases hk1:k<xs.length*K'.sz
       ·simp [hk1]
       ·rw [if_neg hk1]
        simp only [hk1,if_false]
        rw [if_neg (by omega),if_neg (by omega)]
     have hrep':CI H1 K' (xs.set i x') flat':=by
      intro j x hx
      by_cases hji:j=i
      ·subst hji
       rw [AU] at hx
       simp only [hi,if_true,Af] at hx
       subst hx
       have hold:xs[j]? = some (xs.getD j K'.zero):=by simp [List.getD,hi]
       have hseg:=hr j _ hold
       have henc:=Ed.of_rep hseg
       have hsp:=henc.splice hv (by rw [Io]; exact hoff)
       obtain ⟨c1,c2,f1,f2,f3⟩:=Dd K' hsp hd
       have hl1:=f2.length
       have hl2:(((flat.drop (j*K'.sz)).take K'.sz).take off++v.cells.toList++((flat.drop (j*K'.sz)).take K'.sz).drop (off+v.cells.toList.length)).length=K'.sz:=by
        have:=hseg.length
        rw [CP _ _ _ (by rw [this,hvl]; exact hoff)]
        exact this
       have hc2:c2=[]:=by
        have:=congrArg List.length f1
        rw [hl2,List.length_append,hl1] at this
        exact Dk.1 (by omega)
       subst hc2
       rw [List.append_nil] at f1
       have hfinal:((flat'.drop (j*K'.sz)).take K'.sz)=c1:=by
        rw [<- f1]
        apply List.ext_getElem?
        intro k
        have hsl:=hseg.length
        rw [BR _ _ _ _ (by rw [hsl,hvl]; exact hoff)]
        simp only [BB,Ba,flat']
        rw [BR _ _ _ _ hfit2]
        by_cases hk:k<K'.sz
        ·simp only [hk,if_true]
         by_cases h1:k<off
         ·rw [if_pos (by omega),if_pos h1]
         ·rw [if_neg (by omega),if_neg h1]
          by_cases h2:k<off+v.cells.toList.length
          ·rw [if_pos (by omega),if_pos h2]
           congr 1
           omega
          ·rw [if_neg (by omega),if_neg h2]
        ·simp only [hk,if_false]
         rw [if_neg (by omega),if_neg (by omega)]
       rw [hfinal]
       exact f2
      ·rw [AU,if_neg (Ne.symm hji)] at hx
       have hseg:=hr j x hx
       have hj:j<xs.length:=(AT.1 hx).1
       have hfinal:((flat'.drop (j*K'.sz)).take K'.sz)=((flat.drop (j*K'.sz)).take K'.sz):=by
        apply List.ext_getElem?
        intro k
        simp only [BB,Ba,flat']
        rw [BR _ _ _ _ hfit2]
        by_cases hk:k<K'.sz
        ·simp only [hk,if_true]
         rcases Nat.lt_or_gt_of_ne hji with hlt' | hgt'
         ·have:(j+1)*K'.sz<=i*K'.sz:=Bj _ hlt'
          rw [Nat.succ_mul] at this
          rw [if_pos (by omega)]
         ·have:(i+1)*K'.sz<=j*K'.sz:=Bj _ hgt'
          rw [Nat.succ_mul] at this
          rw [if_neg (by omega),if_neg (by omega)]
        ·simp only [hk,if_false]
       rw [hfinal]
       exact hseg
     have e4:(s1.st.set id (AH.mrow t0 K' (xs.set i x')))[id]? = some (.mrow t0 K' (xs.set i x')):=by rw [AU]; simp [hlt]
     refine ⟨H1,fun i=>if i=id then φ id else φ i,_,by rw [e2]; exact hrun,g1.trans (AP.update hs hb rfl ?_ (Aj.of_flat hown' hrep') (fun b hb=>.inl hb) (.inl ⟨rfl,rfl⟩) ?_ ?_),?_,?_⟩
     rotate_right
     ·intro i' bx' hi' hl' hn' b' hb'
      obtain ⟨_,hbr⟩:=E2 hq
      exact aside (hbr hb rfl) rfl (by rw [e1]; rfl) hi' hl' (hn' id (.inr ⟨i,off,rfl⟩)) b' hb'
     ·rw [e1]; exact Ct w b _
     ·exact fun k cs _ o _=>⟨rfl,by simp only [AE,e4]; rfl⟩
     ·exact fun cs hcs=>by cases hcs
     ·refine hf.mono (HP.le_refl _) (ND ?_ ?_ ?_ rfl)
      ·simp only [AE,e4,hb,List.length_set]
      ·simp only [AS,e4,hb]
      ·simp only [AL,e4,hb]; rfl
   | byt t0 xs =>
    simp only at h
    split at h
    case isFalse=>cases h
    rename_i hoff
    subst hoff
    split at h
    case h_2=>cases h
    rename_i c
    cases h
    simp only [AE,hb,Af,Prod.mk.injEq] at hk
    obtain ⟨rfl,rfl⟩:=hk
    obtain ⟨g,cap',cur,fz,e3,hg,hz,hcp,hcc⟩:=hs.box id _ hb
    have e1:φ id=.slice (some ⟨b,0,none⟩) xs.length cap:=by
     rw [e3] at e1 ⊢
     exact e1
    have hlt:id<s1.st.length:=(AT.1 hb).1
    rw [e1] at e3
    cases e3
    obtain ⟨u,r,eu,hu,hr⟩:=hv
    have hr:r=[]:=hr
    subst hr
    have hu:u=.int .u8 c:=hu
    subst hu
    have hvc:v.cells=#[.int .u8 c]:=by rw [<- Array.toArray_toList (xs:=v.cells),eu]
    have hil:i<cur.size:=by
     have:=hcc i (xs[i]) (by simp)
     exact (Array.getElem?_eq_some_iff.1 this).1
    have hrun:=UK (P:=P) (t:=t) (v:=v) (o:=i) hg (by rw [hvc]; simpa using hsz) hvc hil (by omega) rfl
    have hg2:(w.setCell ⟨b,i,none⟩ (.int .u8 c)).heap[b]? = some (.cells (cur.setIfInBounds i (.int .u8 c)) t0 fz):=by simp [World.setCell,Array.getElem?_modify,hg]
    have e4:(s1.st.set id (AH.byt t0 (xs.set i c)))[id]? = some (.byt t0 (xs.set i c)):=by rw [AU]; simp [hlt]
    refine ⟨H1,fun i=>if i=id then φ id else φ i,_,by rw [e2]; simpa [Kd.sz] using hrun,g1.trans (AP.update hs hb rfl ?_ ⟨b,cap,_,fz,by rw [e1]; simp,hg2,by simpa using hz,by simpa using hcp,fun j x hx=>?_⟩ (fun b hb=>.inl hb) (.inr (by simp only [AL,hb]; rfl)) ?_ ?_),?_,?_⟩
    rotate_right
    ·intro i' bx' hi' hl' hn' b' hb'
     obtain ⟨_,hbr⟩:=E2 hq
     have hne:=hs0.sep i' id bx' _ hi' (hbr hb rfl) hl' rfl (hn' id (.inr ⟨i,0,rfl⟩)) b' hb'
     exact (N0 w ⟨b,i,none⟩ _).block b' ((hs0.box i' bx' hi').blk_lt hl' hb') (fun e=>hne (by rw [e1]; exact Option.some.inj e.symm))
    ·rw [e1]; exact N0 w ⟨b,i,none⟩ _
    ·rw [AU] at hx
     by_cases hij:i=j
     ·subst hij
      rw [if_pos rfl,if_pos hi] at hx
      cases hx
      simp [hil]
     ·rw [if_neg hij] at hx
      have:=hcc j x hx
      simp [Array.getElem?_setIfInBounds,hij,this]
    ·exact fun k cs _ o _=>⟨rfl,by simp only [AE,e4]; rfl⟩
    ·exact fun cs hcs=>by cases hcs
    ·refine hf.mono (HP.le_refl _) (ND ?_ ?_ ?_ rfl)
     ·simp only [AE,e4,hb,List.length_set]
     ·simp only [AS,e4,hb]
     ·simp only [AL,e4,hb]; rfl
   | _=>cases h
 | _=>cases h
end Go.Proofs.Ytffahmnodgnohaa.Core

namespace Go.Proofs.Ytffahmnodgnohaa.Core
open Go
variable {H:HP} {φ:BF} {st:List AH} {w w':World} {P:Program}
theorem Bx {l:List Nat} {i:Nat}:Az l i=true↔i∈l:=by
 induction l with
 | nil=>simp [Az]
 | cons a r ih =>
  simp only [Az]
  split
  ·rename_i e; subst e; simp
  ·rename_i e; rw [ih]; simp [Ne.symm e]
theorem Ak {l:List Nat} {i:Nat}:Az l i=false↔i∉l:=by
 rw [<- Bx]; simp
theorem NF:∀ {l:List Nat},OH l=true->l.Nodup
 | [],_=>List.nodup_nil
 | a::r,h=>by
  simp only [OH,AD,DH] at h
  exact List.nodup_cons.2 ⟨Ak.1 h.1,NF h.2⟩
theorem Jp {st:List AH}:∀ {l:List Nat},Im st l=true->∀ i∈l,∃ (t:TypeId) (K:Kd),∃ xs:List (Kd.T K),st[i]? = some (AH.rows t K xs)
 | [],_,i,hi=>by cases hi
 | x::l,h,i,hi=>by
  simp only [Im,AD] at h
  rcases AQ.1 hi with rfl | hi
  ·have:=h.1
   split at this
   ·rename_i t K xs e; exact ⟨t,K,xs,e⟩
   ·cases this
  ·exact Jp h.2 i hi
theorem ML:∀ (js:List Nat) (st:List AH),(D3 js st).length=st.length
 | [],_=>rfl
 | j::js,st=>by simp [D3,ML js]
theorem KW:∀ {js:List Nat} {st:List AH} {i:Nat},i∉js->(D3 js st)[i]? = st[i]?
 | [],_,_,_=>rfl
 | j::js,st,i,h=>by
  simp only [D3]
  rw [KW (fun g=>h (by simp [g])),AU,if_neg (fun e=>h (by simp [e]))]
theorem PV:∀ {js:List Nat} {st:List AH} {i:Nat} {b:AH},i∈js->(D3 js st)[i]? = some b->b=.dead
 | [],_,_,_,h,_=>by cases h
 | j::js,st,i,b,h,e=>by
  simp only [D3] at e
  by_cases hi:i∈js
  ·exact PV hi e
  ·rw [KW hi] at e
   have:i=j:=by rcases AQ.1 h with h | h; exact h; exact absurd h hi
   subst this
   rw [AU] at e
   split at e
   ·split at e
    ·exact (Option.some.inj e).symm
    ·cases e
   ·rename_i h; exact absurd rfl h
theorem E3 {st:List AH} {i:Nat} {b:AH} (h:st[i]? = some b):AE st i=AE [b] 0:=by
 unfold AE; rw [h]; rfl
theorem Kk {st:List AH} {i:Nat} {b:AH} (h:st[i]? = some b):AL st i=b.hold:=by
 unfold AL; rw [h]
theorem Kl {st:List AH} {i:Nat} {b:AH} (h:st[i]? = some b) (hb:∀ cs,b≠.var cs):AS st i=false:=by
 unfold AS; rw [h]
 cases b<;>first | rfl | exact absurd rfl (hb _)
structure Lu (H:HP) (φ:BF) (st:List AH) (w:World) (id:Nat) (bx bx':AH) (v':Value) (js kl:List Nat) (row:Option Nat) (w':World):Prop where
 sr:SR H φ st w
 at_:st[id]? = some bx
 live:bx.live=true
 old:∀ cs,bx≠.var cs
 new:∀ cs,bx'≠.var cs
 kd:(AE [bx'] 0).isSome=true
 rows:∀ j∈js,j≠id/\∃ (t:TypeId) (e:Kd),∃ xs:List (Kd.T e),st[j]? = some (.rows t e xs)
 sub:∀ j∈js,j∈kl
 grown:w.grownBy w' row
 mine:∀ b,row=some b->BQ (φ id) b
 rep:Ee H w' v' bx'
 blks:∀ b,BQ v' b->BQ (φ id) b\/(∃ j∈js,BQ (φ j) b)\/w.heap.size<=b
 hdr:id∈kl\/(Core.hdr v'=Core.hdr (φ id)/\AE [bx'] 0=AE [bx] 0)
 hold:(bx'.hold=true/\Core.hdr v'=Core.hdr (φ id))\/bx.hold=false
def Ef (st:List AH) (js kl:List Nat) (id:Nat) (bx':AH):List AH:=(D3 js (st.map (AH.kill kl))).set id bx'
theorem Lu.get {id:Nat} {bx bx':AH} {v':Value} {js kl:List Nat} {row:Option Nat} (M:Lu H φ st w id bx bx' v' js kl row w') :
  (Ef st js kl id bx')[id]? = some bx'/\(∀ k,k≠id->k∉js->(Ef st js kl id bx')[k]? = (st.map (AH.kill kl))[k]?)/\(∀ k b,k∈js->(Ef st js kl id bx')[k]? = some b->b=.dead):=by
 have hlt:id<(D3 js (st.map (AH.kill kl))).length:=by rw [ML,List.length_map]; exact (AT.1 M.at_).1
 refine ⟨by unfold Ef; rw [AU]; simp [hlt],fun k h1 h2=>?_,fun k b h1 h2=>?_⟩
 ·unfold Ef
  rw [AU,if_neg (Ne.symm h1),KW h2]
 ·unfold Ef at h2
  rw [AU,if_neg (Ne.symm (M.rows k h1).1)] at h2
  exact PV h1 h2
theorem Km {kl:List Nat} {b:AH}:(b.kill kl).live=b.live:=by cases b<;>rfl
theorem Ic {kl:List Nat} {k:Nat} {b:AH} (h:(st.map (AH.kill kl))[k]? = some b):∃ b0,st[k]? = some b0/\b=b0.kill kl:=by
 rw [BT] at h
 cases hb:st[k]? with
 | none=>rw [hb] at h; cases h
 | some b0=>rw [hb] at h; exact ⟨b0,rfl,(Option.some.inj h).symm⟩
theorem Lu.sr' {id:Nat} {bx bx':AH} {v':Value} {js kl:List Nat} {row:Option Nat} (M:Lu H φ st w id bx bx' v' js kl row w') :
  SR H (fun i=>if i=id then v' else φ i) (Ef st js kl id bx') w':=by
 obtain ⟨geti,get,dead⟩:=M.get
 have h:=M.sr
 have hsk:=h.kill kl
 have hg:=M.grown
 have liveN:∀ k b,(Ef st js kl id bx')[k]? = some b->b.live=true->k∉js:=fun k b hk hl hj=>by rw [dead k b hj hk] at hl; cases hl
 have orig:∀ k b,k≠id->(Ef st js kl id bx')[k]? = some b->b.live=true->∃ b0,st[k]? = some b0/\b0.live=true:=fun k b hne hk hl=>by
  rw [get k hne (liveN k b hk hl)] at hk
  obtain ⟨b0,h1,rfl⟩:=Ic hk
  exact ⟨b0,h1,by rw [Km] at hl; exact hl⟩
 have hown:∀ b,BQ v' b->H b=none/\∀ j bj,st[j]? = some bj->bj.live=true->j≠id->j∉js->¬BQ (φ j) b:=by
  intro b hb'
  rcases M.blks b hb' with e | ⟨q,hq,e⟩ | e
  ·exact ⟨h.out id bx M.at_ M.live b e,fun j bj hj lj hne _=>h.sep id j bx bj M.at_ hj M.live lj (Ne.symm hne) b e⟩
  ·obtain ⟨_,t,k,xs,hqs⟩:=M.rows q hq
   exact ⟨h.out q _ hqs rfl b e,fun j bj hj lj _ hn=>h.sep q j _ bj hqs hj rfl lj (fun e=>hn (e▸hq)) b e⟩
  ·exact ⟨(h.fresh e).1,fun j bj hj lj _ _=>(h.fresh e).2 j bj hj lj⟩
 refine ⟨fun b o hb'=>?_,fun k bk hk=>?_,fun i j bi bj hi hj li lj hij b hb'=>?_,fun i bi hi li b hb'=>?_,fun k cs hk o i ho=>?_,h.tb⟩
 ·rw [hg.block b (HP.lt_of h.hp hb') (fun e=>by have:=h.out id bx M.at_ M.live b (M.mine _ e.symm); rw [this] at hb'; cases hb')]
  exact h.hp b o hb'
 ·by_cases e:k=id
  ·subst e
   rw [geti] at hk
   cases hk
   simpa using M.rep
  ·simp only [e,if_false]
   by_cases hj:k∈js
   ·rw [dead k bk hj hk]; trivial
   ·rw [get k e hj] at hk
    obtain ⟨b0,g1,rfl⟩:=Ic hk
    exact (hsk.box k _ hk).kept hg fun b h1 h2=>fun e2=>h.sep k id b0 bx g1 M.at_ (by rw [Km] at h2; exact h2) M.live e b h1 (M.mine _ e2)
 ·by_cases ei:i=id
  ·subst ei
   have ej:j≠i:=Ne.symm hij
   obtain ⟨b0,g1,g2⟩:=orig j bj ej hj lj
   simp only [ej,if_false,if_true] at hb' ⊢
   exact (hown b hb').2 j b0 g1 g2 ej (liveN j bj hj lj)
  ·obtain ⟨b1,f1,f2⟩:=orig i bi ei hi li
   by_cases ej:j=id
   ·subst ej
    simp only [ei,if_false,if_true] at hb' ⊢
    intro e
    exact (hown b e).2 i b1 f1 f2 ei (liveN i bi hi li) hb'
   ·obtain ⟨b0,g1,g2⟩:=orig j bj ej hj lj
    simp only [ei,ej,if_false] at hb' ⊢
    exact h.sep i j b1 b0 f1 g1 f2 g2 hij b hb'
 ·by_cases ei:i=id
  ·subst ei
   simp only [if_true] at hb'
   exact (hown b hb').1
  ·obtain ⟨b1,f1,f2⟩:=orig i bi ei hi li
   simp only [ei,if_false] at hb'
   exact h.out i b1 f1 f2 b hb'
 ·have ek:k≠id:=fun e=>by subst e; rw [geti] at hk; cases hk; exact M.new cs rfl
  have hnj:=liveN k _ hk rfl
  rw [get k ek hnj] at hk
  obtain ⟨h1,b,h2,h3⟩:=hsk.cell k cs hk o i ho
  have hn:=Ak.1 (Gb hk ho)
  obtain ⟨b0,g1,g2⟩:=Ic hk
  have hl0:b0.live=true:=by rw [<- Km (kl:=kl),<- g2]; rfl
  have h4:=QW hg (fun e=>h.sep k id b0 bx g1 M.at_ hl0 M.live ek b (by rw [h2]; rfl) (M.mine _ e)) h3
  by_cases ei:i=id
  ·subst ei
   rcases M.hdr with e | ⟨e1,e2⟩
   ·exact absurd e hn
   ·exact ⟨by rw [E3 geti]; exact M.kd,b,by simpa [ek] using h2,by simp only [if_true,e1]; exact h4⟩
  ·refine ⟨?_,b,by simpa [ek] using h2,by simp only [ei,if_false]; exact h4⟩
   have:AE (Ef st js kl id bx') i=AE (st.map (AH.kill kl)) i:=by
    unfold AE; rw [get i ei (fun hj=>hn (M.sub i hj))]
   rw [this]
   exact h1
theorem Lu.keeps {id:Nat} {bx bx':AH} {v':Value} {js kl:List Nat} {row:Option Nat} (M:Lu H φ st w id bx bx' v' js kl row w') :
  BU φ st (fun i=>if i=id then v' else φ i) (Ef st js kl id bx') kl:=by
 obtain ⟨geti,get,dead⟩:=M.get
 have same:∀ i,i≠id->i∉js->AE (Ef st js kl id bx') i=AE st i/\AS (Ef st js kl id bx') i=AS st i/\AL (Ef st js kl id bx') i=AL st i:=fun i h1 h2=>by
  have:=get i h1 h2
  refine ⟨?_,?_,?_⟩
  ·rw [<- De (AN kl) st i]; unfold AE; rw [this]
  ·rw [<- Cm (AN kl) st i]; unfold AS; rw [this]
  ·rw [<- Cs (AN kl) st i]; unfold AL; rw [this]
 have vid:AS (Ef st js kl id bx') id=AS st id:=by rw [Kl geti M.new,Kl M.at_ M.old]
 refine ⟨fun i hn _=>?_,fun i hv=>?_⟩
 ·have hn:=Ak.1 hn
  by_cases e:i=id
  ·subst e
   rcases M.hdr with e | ⟨e1,e2⟩
   ·exact absurd e hn
   ·exact ⟨by simpa using e1,by rw [E3 geti,E3 M.at_]; exact e2,vid⟩
  ·obtain ⟨s1,s2,_⟩:=same i e fun hj=>hn (M.sub i hj)
   exact ⟨by simp [e],s1,s2⟩
 ·by_cases e:i=id
  ·subst e
   rw [Kk M.at_] at hv
   rcases M.hold with ⟨h1,h2⟩ | h
   ·exact ⟨by simpa using h2,by rw [Kk geti]; exact h1,vid⟩
   ·rw [h] at hv; cases hv
  ·have hnj:i∉js:=fun hj=>by
    obtain ⟨_,t,k,xs,hs⟩:=M.rows i hj
    rw [Kk hs] at hv; cases hv
   obtain ⟨s1,s2,s3⟩:=same i e hnj
   exact ⟨by simp [e],by rw [s3]; exact hv,s2⟩
theorem Lu.step {id:Nat} {bx bx':AH} {v':Value} {js kl:List Nat} {row:Option Nat} (M:Lu H φ st w id bx bx' v' js kl row w') :
  AP H φ st w H (fun i=>if i=id then v' else φ i) (Ef st js kl id bx') w' where
 le:=HP.le_refl H
 sr:=M.sr'
 fr mv m0 H0 φ0 w0 f:=by
  obtain ⟨geti,get,dead⟩:=M.get
  have hg:=M.grown
  refine ⟨hg.os.trans f.os,hg.tape.trans f.tape,hg.output.trans f.output,Nat.le_trans f.size hg.size,fun b hb' hn'=>?_,fun j hj=>((M.keeps.2 j (f.vars j hj)).1).trans (f.same j hj),fun i bi hbi hli b hb'=>?_,fun j hj=>(M.keeps.2 j (f.vars j hj)).2.1,f.frz⟩
  ·rw [hg.block b (Nat.lt_of_lt_of_le hb' f.size) (fun e=>?_)]
   ·exact f.old b hb' hn'
   ·rcases f.new id bx M.at_ M.live b (M.mine _ e.symm) with g | ⟨j,g1,g2⟩
    ·omega
    ·exact hn' j g1 g2
  ·by_cases e:i=id
   ·subst e
    simp only [if_true] at hb'
    rcases M.blks b hb' with e | ⟨q,hq,e⟩ | e
    ·exact f.new i bx M.at_ M.live b e
    ·obtain ⟨_,t,k,xs,hqs⟩:=M.rows q hq
     exact f.new q _ hqs rfl b e
    ·exact .inl (Nat.le_trans f.size e)
   ·simp only [e,if_false] at hb'
    by_cases hj:i∈js
    ·rw [dead i bi hj hbi] at hli; cases hli
    ·rw [get i e hj] at hbi
     obtain ⟨b0,g1,rfl⟩:=Ic hbi
     exact f.new i b0 g1 (by rw [Km] at hli; exact hli) b hb'
theorem Vm {id:Nat} {bx bx1 bx2:AH} {v1 v2:Value} (h:SR H φ st w) (hid:st[id]? = some bx) (hl:bx.live=true) (hl1:bx1.live=true) (hv:∀ cs,bx≠.var cs) (hv1:∀ cs,bx1≠.var cs) (hv2:∀ cs,bx2≠.var cs)
  (hb1:Ee H w v1 bx1) (hb2:Ee H w v2 bx2) (hs1:∀ b,BQ v1 b->BQ (φ id) b) (hs2:∀ b,BQ v2 b->BQ (φ id) b) (hd:∀ b,BQ v1 b->¬BQ v2 b) (hh:hdr v1=hdr (φ id)) (hk:AE [bx1] 0=AE [bx] 0) (hki:(AE [bx1] 0).isSome=true)
  (hho:bx1.hold=bx.hold) :
  AP H φ st w H (fun i=>if i=st.length then v2 else if i=id then v1 else φ i) (st.set id bx1++[bx2]) w /\
   BU φ st (fun i=>if i=st.length then v2 else if i=id then v1 else φ i) (st.set id bx1++[bx2]) []:=by
 have hlt:id<st.length:=(AT.1 hid).1
 have geti:(st.set id bx1)[id]? = some bx1:=by rw [AU]; simp [hlt]
 have get:∀ k,k≠id->(st.set id bx1)[k]? = st[k]? := fun k hk=>by rw [AU]; simp [Ne.symm hk]
 have A:=h.updateG (bx':=bx1) (v':=v1) hid hl (row:=none) (Ga w) (fun _ e=>by cases e) hb1 (fun b hb=>.inl (hs1 b hb)) (fun k cs _ o _=>⟨hh,by rw [E3 geti]; exact hki⟩) (fun cs e=>absurd e (hv1 cs))
 have hlen:(st.set id bx1).length=st.length:=by simp
 have B:=A.push (v:=v2) (bx:=bx2) hb2 (fun _ b hb=>⟨h.out id bx hid hl b (hs2 b hb),fun i bi hi hli=>by
  by_cases e:i=id
  ·subst e; simp only [if_true]; exact fun e=>hd b e hb
  ·rw [get i e] at hi
   simp only [e,if_false]
   exact h.sep id i bx bi hid hi hl hli (Ne.symm e) b (hs2 b hb)⟩) (fun cs e=>absurd e (hv2 cs))
 rw [hlen] at B
 have app:∀ k,k<st.length->(st.set id bx1++[bx2])[k]? = (st.set id bx1)[k]? := fun k hk=>AZ (by rw [hlen]; exact hk)
 have kb:BU φ st (fun i=>if i=st.length then v2 else if i=id then v1 else φ i) (st.set id bx1++[bx2]) []:=by
  refine ⟨fun i _ hd=>?_,fun i hv'=>?_⟩
  ·have hl:i<st.length:=by rcases hd with h | h; exact E1 h; exact PO h
   by_cases e:i=id
   ·subst e
    have g:=(app i hl).trans geti
    exact ⟨by simp [Nat.ne_of_lt hl,hh],by rw [E3 g,E3 hid,hk],by rw [Kl g hv1,Kl hid hv]⟩
   ·have g:=(app i hl).trans (get i e)
    exact ⟨by simp [Nat.ne_of_lt hl,e],by unfold AE; rw [g],by unfold AS; rw [g]⟩
  ·have hl:=GZ hv'
   by_cases e:i=id
   ·subst e
    have g:=(app i hl).trans geti
    exact ⟨by simp [Nat.ne_of_lt hl,hh],by rw [Kk g,hho,<- Kk hid]; exact hv',by rw [Kl g hv1,Kl hid hv]⟩
   ·have g:=(app i hl).trans (get i e)
    exact ⟨by simp [Nat.ne_of_lt hl,e],by unfold AL at hv' ⊢; rw [g]; exact hv',by unfold AS; rw [g]⟩
 refine ⟨⟨HP.le_refl H,B,fun mv m0 H0 φ0 w0 f=>⟨f.os,f.tape,f.output,f.size,f.old,fun j hj=>(kb.2 j (f.vars j hj)).1.trans (f.same j hj),fun i bi hi hli b hb=>?_,fun j hj=>(kb.2 j (f.vars j hj)).2.1,f.frz⟩⟩,kb⟩
 rcases Nat.lt_trichotomy i st.length with e | e | e
 ·rw [app i e] at hi
  simp only [Nat.ne_of_lt e,if_false] at hb
  by_cases e2:i=id
  ·subst e2
   simp only [if_true] at hb
   exact f.new i bx hid hl b (hs1 b hb)
  ·rw [get i e2] at hi
   simp only [e2,if_false] at hb
   exact f.new i bi hi hli b hb
 ·subst e
  simp only [if_true] at hb
  exact f.new id bx hid hl b (hs2 b hb)
 ·rw [Cb (by simp; omega)] at hi; cases hi

def Ws (H:HP) (w:World) (r:SN) (u:Value):Prop:=∃ flat,w.ownsRow 0 r.t r.e.sz u r.xs.length flat/\CI H r.e r.xs flat
theorem Uz {q k:Nat} (h:k<=q):(fun n=>(n+k==q))=fun n=>n==q-k:=by
 funext n
 have e:n+k=q↔n=q-k:=by omega
 rw [Bool.eq_iff_iff,beq_iff_eq,beq_iff_eq]
 exact e
theorem YW {q k:Nat} (h:q<k):(fun n=>(n+k==q))=fun _=>false:=by
 funext n
 have:n+k≠q:=by omega
 simp [this]
theorem Cf.congr:∀ {K:Kd} {hl hl':Nat->Bool} {x:K.T} {cs vs:List Value},(∀ m,m<K.nown->hl m=hl' m)->Cf H w hl K x cs vs->Cf H w hl' K x cs vs:=by
 intro K
 induction K with
 | pair a b iha ihb =>
  intro hl hl' x cs vs he h
  simp only [Kd.nown] at he
  obtain ⟨c1,c2,v1,v2,e1,e2,h1,h2⟩:=h
  exact ⟨c1,c2,v1,v2,e1,e2,iha (fun m hm=>he m (by omega)) h1,ihb (fun m hm=>he _ (by omega)) h2⟩
 | own t e _ =>
  intro hl hl' x cs vs he h
  obtain ⟨v,e1,e2,h⟩:=h
  rw [he 0 (by simp [Kd.nown])] at h
  exact ⟨v,e1,e2,h⟩
 | _=>intro hl hl' x cs vs _ h; exact h
theorem Cf.out:∀ {K:Kd} {x:K.T} {cs vs:List Value} {q:Nat} {r:SN},Cf H w (fun _=>false) K x cs vs->K.innG x q=some r ->
  ∃ u,vs[q]? = some u/\Ws H w r u/\Cf H w (fun n=>n==q) K x cs (vs.set q (.tuple #[u])):=by
 intro K
 induction K with
 | pair a b iha ihb =>
  intro x cs vs q r h hg
  obtain ⟨c1,c2,v1,v2,rfl,rfl,h1,h2⟩:=h
  have l1:=h1.vlen
  simp only [Kd.innG] at hg
  split at hg
  ·rename_i hq
   obtain ⟨u,g1,g2,g3⟩:=iha h1 hg
   refine ⟨u,by rw [AZ (by omega)]; exact g1,g2,c1,c2,v1.set q (.tuple #[u]),v2,rfl,by rw [List.set_append_left _ _ (by omega)],g3,?_⟩
   exact h2.congr fun m _=>(beq_false_of_ne (show m+a.nown≠q by omega)).symm
  ·rename_i hq
   obtain ⟨u,g1,g2,g3⟩:=ihb h2 hg
   refine ⟨u,by rw [BG (by omega),l1]; exact g1,g2,c1,c2,v1,v2.set (q-a.nown) (.tuple #[u]),rfl,by rw [List.set_append_right _ _ (by omega),l1],?_,?_⟩
   ·exact h1.congr fun m hm=>(beq_false_of_ne (show m≠q by omega)).symm
   ·rw [Uz (by omega)]; exact g3
 | own t e _ =>
  intro x cs vs q r h hg
  cases q with
  | zero =>
   simp only [Kd.innG,Af] at hg
   subst hg
   obtain ⟨v,e1,e2,h⟩:=h
   rw [if_neg (by simp)] at h
   obtain ⟨rfl,flat,h1,h2⟩:=h
   exact ⟨v,rfl,⟨flat,h1,h2⟩,v,e1,e2,by simp⟩
  | succ q=>simp [Kd.innG] at hg
 | _=>intro x cs vs q r h hg; simp [Kd.innG] at hg
theorem Cf.back:∀ {K:Kd} {x x':K.T} {cs vs:List Value} {q:Nat} {r:SN} {u:Value},Cf H w (fun n=>n==q) K x cs vs->vs[q]? = some (.tuple #[u])->K.innS x q r=some x'->Ws H w r u ->
  Cf H w (fun _=>false) K x' cs (vs.set q u):=by
 intro K
 induction K with
 | pair a b iha ihb =>
  intro x x' cs vs q r u h hv hs hr
  obtain ⟨c1,c2,v1,v2,rfl,rfl,h1,h2⟩:=h
  have l1:=h1.vlen
  simp only [Kd.innS] at hs
  split at hs
  ·rename_i hq
   cases hy:a.innS x.1 q r with
   | none=>rw [hy] at hs; cases hs
   | some y =>
    rw [hy] at hs
    cases hs
    rw [AZ (by omega)] at hv
    refine ⟨c1,c2,v1.set q u,v2,rfl,by rw [List.set_append_left _ _ (by omega)],iha h1 hv hy hr,?_⟩
    rw [YW hq] at h2
    exact h2
  ·rename_i hq
   cases hy:b.innS x.2 (q-a.nown) r with
   | none=>rw [hy] at hs; cases hs
   | some y =>
    rw [hy] at hs
    cases hs
    rw [BG (by omega),l1] at hv
    rw [Uz (by omega)] at h2
    refine ⟨c1,c2,v1,v2.set (q-a.nown) u,rfl,by rw [List.set_append_right _ _ (by omega),l1],h1.congr fun m hm=>?_,ihb h2 hv hy hr⟩
    have:m≠q:=by omega
    simp [this]
 | own t e _ =>
  intro x x' cs vs q r u h hv hs hr
  cases q with
  | zero =>
   simp only [Kd.innS] at hs
   split at hs
   ·rename_i ht
    split at hs
    ·rename_i he
     obtain ⟨rt,re,rx⟩:=r
     simp only at ht he
     subst ht he
     cases hs
     obtain ⟨v,e1,e2,h⟩:=h
     rw [if_pos (by simp)] at h
     subst h
     simp only [List.getElem?_cons_zero,Af,Value.tuple.injEq,Array.mk.injEq,List.cons.injEq,and_true] at hv
     subst hv
     exact ⟨v,e1,e2,by rw [if_neg (by simp)]; exact ⟨rfl,hr⟩⟩
    ·cases hs
   ·cases hs
  | succ q=>simp [Kd.innS] at hs
 | _=>intro x x' cs vs q r u h hv hs hr; cases q<;>simp [Kd.innS] at hs
theorem Wt:∀ {K:Kd} {x:K.T} {q:Nat} {r:SN},K.innG x q=some r->K.innS x q r=some x:=by
 intro K
 induction K with
 | pair a b iha ihb =>
  intro x q r h
  simp only [Kd.innG] at h
  simp only [Kd.innS]
  split at h
  ·rename_i hq; rw [if_pos hq,iha h]; rfl
  ·rename_i hq; rw [if_neg hq,ihb h]; rfl
 | own t e _ =>
  intro x q r h
  cases q with
  | zero=>simp only [Kd.innG,Af] at h; subst h; simp [Kd.innS]
  | succ q=>simp [Kd.innG] at h
 | _=>intro x q r h; cases q<;>simp [Kd.innG] at h
theorem YX:∀ {K:Kd} {x:K.T} {q:Nat} {r:SN},K.innG x q=some r->q<K.nown:=by
 intro K
 induction K with
 | pair a b iha ihb =>
  intro x q r h
  simp only [Kd.innG] at h
  simp only [Kd.nown]
  split at h
  ·omega
  ·have:=ihb h; omega
 | own t e _ =>
  intro x q r h
  cases q with
  | zero=>simp [Kd.nown]
  | succ q=>simp [Kd.innG] at h
 | _=>intro x q r h; cases q<;>simp [Kd.innG] at h
theorem D2 {α:Type} {k:Nat}:∀ {vss:List (List α)} {j m:Nat} {u:α} {vs:List α},(∀ vs∈vss,vs.length=k)->vss[j]? = some vs->m<k->(vss.set j (vs.set m u)).flatten=vss.flatten.set (j*k+m) u
 | [],j,m,u,vs,_,h,_=>by simp at h
 | v::vss,0,m,u,vs,hl,h,hm=>by
  simp at h
  subst h
  rw [List.set_cons_zero,List.flatten_cons,List.flatten_cons,Nat.zero_mul,Nat.zero_add,List.set_append_left _ _ (by rw [hl _ (by simp)]; exact hm)]
 | v::vss,j+1,m,u,vs,hl,h,hm=>by
  have hv:=hl v (by simp)
  rw [List.set_cons_succ,List.flatten_cons,List.flatten_cons,Nat.succ_mul,List.set_append_right _ _ (by omega),show j*k+k+m-v.length=j*k+m by omega]
  rw [D2 (fun vs h=>hl vs (by simp [h])) (by simpa using h) hm]
def QZ (v:Value) (n:Nat) (u:Value):Value :=
 match v with
 | .tuple vs=>.tuple (vs.toList.set (n+1) u).toArray
 | v=>v
theorem WF {h:Value} {l:List Value} {n:Nat} {u:Value} (hn:n<l.length):QZ (Rc h l) n u=Rc h (l.set n u):=by
 cases l with
 | nil=>simp at hn
 | cons a l=>cases n<;>simp [QZ,Rc]
theorem Wu {l:List Value} {n:Nat} {u:Value} (h:(l.filterMap Dc).Nodup) (hu:l[n]? = some u):((l.set n (.tuple #[u])).filterMap Dc).Nodup/\∀ b,Dc u=some b->∀ v∈l.set n (.tuple #[u]),Dc v≠some b:=by
 induction l generalizing n with
 | nil=>simp at hu
 | cons a l ih =>
  cases n with
  | zero =>
   simp at hu
   subst hu
   rw [List.set_cons_zero,List.filterMap_cons_none (by rfl)]
   rw [List.filterMap_cons] at h
   cases hb:Dc a with
   | none=>rw [hb] at h; exact ⟨h,fun b e=>by cases e⟩
   | some c =>
    rw [hb] at h
    obtain ⟨h1,h2⟩:=List.nodup_cons.1 h
    refine ⟨h2,fun b e v hv hc=>?_⟩
    cases e
    rcases AQ.1 hv with rfl | hv
    ·cases hc
    ·exact h1 (List.mem_filterMap.2 ⟨v,hv,hc⟩)
  | succ n =>
   rw [List.set_cons_succ]
   simp only [List.getElem?_cons_succ] at hu
   have hul:u∈l:=List.mem_of_getElem? hu
   rw [List.filterMap_cons] at h ⊢
   cases hb:Dc a with
   | none =>
    rw [hb] at h
    obtain ⟨g1,g2⟩:=ih h hu
    refine ⟨g1,fun b e v hv hc=>?_⟩
    rcases AQ.1 hv with rfl | hv
    ·rw [hb] at hc; cases hc
    ·exact g2 b e v hv hc
   | some c =>
    rw [hb] at h
    obtain ⟨h1,h2⟩:=List.nodup_cons.1 h
    obtain ⟨g1,g2⟩:=ih h2 hu
    refine ⟨List.nodup_cons.2 ⟨fun hm=>h1 ?_,g1⟩,fun b e v hv hc=>?_⟩
    ·obtain ⟨v,hv,hc⟩:=List.mem_filterMap.1 hm
     rcases List.mem_or_eq_of_mem_set hv with hv | rfl
     ·exact List.mem_filterMap.2 ⟨v,hv,hc⟩
     ·cases hc
    ·rcases AQ.1 hv with rfl | hv
     ·rw [hb] at hc; cases hc
      exact h1 (List.mem_filterMap.2 ⟨u,hul,e⟩)
     ·exact g2 b e v hv hc
theorem Vn {l:List Value} {n:Nat} {u u0:Value} (h:(l.filterMap Dc).Nodup) (hu:l[n]? = some u0) (hu0:Dc u0=none) (hn:∀ b,Dc u=some b->∀ v∈l,Dc v≠some b):((l.set n u).filterMap Dc).Nodup:=by
 induction l generalizing n with
 | nil=>simp at hu
 | cons a l ih =>
  cases n with
  | zero =>
   simp at hu
   subst hu
   rw [List.filterMap_cons_none hu0] at h
   rw [List.set_cons_zero,List.filterMap_cons]
   cases hb:Dc u with
   | none=>exact h
   | some c=>exact List.nodup_cons.2 ⟨fun hm=>by obtain ⟨v,hv,hc⟩:=List.mem_filterMap.1 hm; exact hn c hb v (by simp [hv]) hc,h⟩
  | succ n =>
   rw [List.set_cons_succ]
   simp only [List.getElem?_cons_succ] at hu
   rw [List.filterMap_cons] at h ⊢
   cases hb:Dc a with
   | none=>rw [hb] at h; exact ih h hu fun b e v hv=>hn b e v (by simp [hv])
   | some c =>
    rw [hb] at h
    obtain ⟨h1,h2⟩:=List.nodup_cons.1 h
    refine List.nodup_cons.2 ⟨fun hm=>?_,ih h2 hu fun b e v hv=>hn b e v (by simp [hv])⟩
    obtain ⟨v,hv,hc⟩:=List.mem_filterMap.1 hm
    rcases List.mem_or_eq_of_mem_set hv with hv | rfl
    ·exact h1 (List.mem_filterMap.2 ⟨v,hv,hc⟩)
    ·exact hn c hc a (by simp) hb
theorem Aj.out {v:Value} {t:TypeId} {K:Kd} {xs:List K.T} {i q:Nat} {r:SN} {u:Value} (h:Aj H w C7 v t K xs) (hi:i<xs.length) (hg:K.innG (xs.getD i K.zero) q=some r) (hu:Wn v (i*K.nown+q)=some u) :
  Ws H w r u/\Aj H w (E0 i q) (QZ v (i*K.nown+q) (.tuple #[u])) t K xs/\hdr (QZ v (i*K.nown+q) (.tuple #[u]))=hdr v/\Wn (QZ v (i*K.nown+q) (.tuple #[u])) (i*K.nown+q)=some (.tuple #[u]) /\
   (∀ b,BQ u b->BQ v b)/\(∀ b,BQ (QZ v (i*K.nown+q) (.tuple #[u])) b->BQ v b/\¬BQ u b):=by
 obtain ⟨hd,flat,vss,rfl,ho,hlen,hnd,hr⟩:=h
 obtain ⟨a0,c0,e0⟩:=Aa ho
 have hnt:∀ vs,hd≠.tuple vs:=by rw [e0]; simp
 have hu:=XR hnt hu
 have hq:=YX hg
 have hx:xs[i]? = some (xs.getD i K.zero):=by simp [List.getD,hi]
 have hvs:vss[i]? = some (vss[i]'(by omega)):=by simp
 have hlens:∀ vs∈vss,vs.length=K.nown:=fun vs hm=>by
  obtain ⟨j,hj⟩:=List.mem_iff_getElem?.1 hm
  obtain ⟨x,hx⟩:=PP hj hlen
  exact (hr j x vs hx hj).vlen
 have hfl:=AT.1 hu
 obtain ⟨u',g1,g2,g3⟩:=Cf.out (hr i _ _ hx hvs) hg
 rw [Fp hlens hvs hq,g1] at hu
 cases hu
 have hub:∀ us,u≠.tuple us:=by
  obtain ⟨_,ho2,_⟩:=g2
  obtain ⟨_,_,e⟩:=Aa ho2
  rw [e]; simp
 have hset:QZ (Rc hd vss.flatten) (i*K.nown+q) (.tuple #[u])=Rc hd (vss.set i ((vss[i]'(by omega)).set q (.tuple #[u]))).flatten:=by
  rw [WF hfl.1,D2 hlens hvs hq]
 have hnd2:=Wu (l:=hd::vss.flatten) (n:=i*K.nown+q+1) (u:=u) hnd (by rw [List.getElem?_cons_succ,Fp hlens hvs hq]; exact g1)
 rw [List.set_cons_succ,<- D2 hlens hvs hq] at hnd2
 rw [hset]
 refine ⟨g2,⟨hd,flat,_,rfl,ho,by simpa using hlen,hnd2.1,fun j x vs hx' hj=>?_⟩,by rw [D5 hnt,D5 hnt],?_,fun b hb=>?_,fun b hb=>⟨?_,fun hb2=>?_⟩⟩
 ·by_cases e:j=i
  ·subst e
   rw [hx] at hx'
   cases hx'
   rw [AU] at hj
   simp only [show j<vss.length by omega,if_true,Af] at hj
   subst hj
   exact g3.congr fun m _=>by simp [E0]
  ·rw [AU,if_neg (Ne.symm e)] at hj
   exact (hr j x vs hx' hj).congr fun m _=>by simp [E0,C7,e]
 ·refine XQ ?_
  rw [D2 hlens hvs hq,AU,if_pos rfl,if_pos hfl.1]
 ·exact (D6 ⟨_,_,_,e0⟩).2 ⟨u,by simp [List.mem_of_getElem? (show vss.flatten[i*K.nown+q]? = some u by rw [Fp hlens hvs hq]; exact g1)],hb.flat hub⟩
 ·obtain ⟨v,hv,hc⟩:=(D6 ⟨_,_,_,e0⟩).1 hb
  rw [D2 hlens hvs hq] at hv
  refine (D6 ⟨_,_,_,e0⟩).2 ⟨v,?_,hc⟩
  rcases AQ.1 hv with rfl | hv
  ·simp
  ·rcases List.mem_or_eq_of_mem_set hv with hv | rfl
   ·simp [hv]
   ·cases hc
 ·obtain ⟨v,hv,hc⟩:=(D6 ⟨_,_,_,e0⟩).1 hb
  exact hnd2.2 b (hb2.flat hub) v hv hc
theorem Aj.back {v:Value} {t:TypeId} {K:Kd} {xs:List K.T} {i q:Nat} {r:SN} {u:Value} {x':K.T} (h:Aj H w (E0 i q) v t K xs) (hi:i<xs.length) (hq:q<K.nown) (hu:Wn v (i*K.nown+q)=some (.tuple #[u])) (hs:K.innS (xs.getD i K.zero) q r=some x')
  (ho:Ws H w r u) (hdd:∀ b,BQ u b->¬BQ v b) :
  Aj H w C7 (QZ v (i*K.nown+q) u) t K (xs.set i x')/\hdr (QZ v (i*K.nown+q) u)=hdr v/\(∀ b,BQ (QZ v (i*K.nown+q) u) b->BQ v b\/BQ u b):=by
 obtain ⟨hd,flat,vss,rfl,how,hlen,hnd,hr⟩:=h
 obtain ⟨a0,c0,e0⟩:=Aa how
 have hnt:∀ vs,hd≠.tuple vs:=by rw [e0]; simp
 have hu:=XR hnt hu
 have hx:xs[i]? = some (xs.getD i K.zero):=by simp [List.getD,hi]
 have hvs:vss[i]? = some (vss[i]'(by omega)):=by simp
 have hlens:∀ vs∈vss,vs.length=K.nown:=fun vs hm=>by
  obtain ⟨j,hj⟩:=List.mem_iff_getElem?.1 hm
  obtain ⟨x,hx⟩:=PP hj hlen
  exact (hr j x vs hx hj).vlen
 have hfl:=AT.1 hu
 have hui:=hu
 rw [Fp hlens hvs hq] at hui
 have hub:∀ us,u≠.tuple us:=by
  obtain ⟨_,ho2,_⟩:=ho
  obtain ⟨_,_,e⟩:=Aa ho2
  rw [e]; simp
 have hset:QZ (Rc hd vss.flatten) (i*K.nown+q) u=Rc hd (vss.set i ((vss[i]'(by omega)).set q u)).flatten:=by
  rw [WF hfl.1,D2 hlens hvs hq]
 have hnd2:=Vn (l:=hd::vss.flatten) (n:=i*K.nown+q+1) (u:=u) hnd (by rw [List.getElem?_cons_succ]; exact hu) rfl (fun b hb v hv hc=>by
  exact hdd b (.of hb) ((D6 ⟨_,_,_,e0⟩).2 ⟨v,hv,hc⟩))
 rw [List.set_cons_succ,<- D2 hlens hvs hq] at hnd2
 rw [hset]
 refine ⟨⟨hd,flat,_,rfl,by simpa using how,by simpa using hlen,hnd2,fun j x vs hx' hj=>?_⟩,by rw [D5 hnt,D5 hnt],fun b hb=>?_⟩
 ·by_cases e:j=i
  ·subst e
   rw [AU] at hx' hj
   simp only [hi,show j<vss.length by omega,if_true,Af] at hx' hj
   subst hx' hj
   have hn:=(hr j _ _ hx hvs).congr (hl':=fun n=>n==q) fun m _=>by simp [E0]
   exact hn.back hui hs ho
  ·rw [AU,if_neg (Ne.symm e)] at hx' hj
   exact (hr j x vs hx' hj).congr fun m _=>by simp [E0,C7,e]
 ·obtain ⟨v,hv,hc⟩:=(D6 ⟨_,_,_,e0⟩).1 hb
  rw [D2 hlens hvs hq] at hv
  rcases AQ.1 hv with rfl | hv
  ·exact .inl ((D6 ⟨_,_,_,e0⟩).2 ⟨_,by simp,hc⟩)
  ·rcases List.mem_or_eq_of_mem_set hv with hv | rfl
   ·exact .inl ((D6 ⟨_,_,_,e0⟩).2 ⟨v,by simp [hv],hc⟩)
   ·exact .inr (.of hc)

def Ij (H:HP) (w:World):(Nat->Bool)->List AV->List Value->List Value->Prop
 | _,[],cs,vs=>cs=[]/\vs=[]
 | hl,a::r,cs,vs=>match a with
  | .new t e xs=>∃ v c1 u v1,cs=v::c1/\vs=u::v1/\v.oneCell'=true/\(if hl 0=true then u=.tuple #[v] else u=v/\Ws H w ⟨t,e,xs⟩ v)/\Ij H w (fun n=>hl (n+1)) r c1 v1
  | a=>∃ v c1,cs=v::c1/\VF H a v/\Ij H w hl r c1 vs
theorem Ij.news:∀ {aw:List AV} {hl:Nat->Bool} {cs vs:List Value},Ij H w hl aw cs vs->AG aw=vs.length/\cs.length=aw.length/\∀ v∈cs,v.oneCell'=true
 | [],_,_,_,⟨rfl,rfl⟩=>⟨rfl,rfl,by simp⟩
 | a::r,hl,cs,vs,h=>by
  cases a with
  | new t e xs =>
   obtain ⟨v,c1,u,v1,rfl,rfl,h1,_,h2⟩:=h
   obtain ⟨e1,e2,e3⟩:=Ij.news h2
   exact ⟨by simp [AG,AV.isNew,e1],by simp [e2],fun u hu=>by rcases AQ.1 hu with rfl | hu; exact h1; exact e3 u hu⟩
  | ref cs'=>obtain ⟨_,_,_,h,_⟩:=h; exact h.elim
  | _ =>
   obtain ⟨v,c1,rfl,h1,h2⟩:=h
   obtain ⟨e1,e2,e3⟩:=Ij.news h2
   exact ⟨by simpa [AG,AV.isNew] using e1,by simp [e2],fun u hu=>by rcases AQ.1 hu with rfl | hu; exact h1.oneCell; exact e3 u hu⟩
theorem Ij.append:∀ {a b:List AV} {hl:Nat->Bool} {c1 c2 v1 v2:List Value},Ij H w hl a c1 v1->Ij H w (fun n=>hl (n+v1.length)) b c2 v2->Ij H w hl (a++b) (c1++c2) (v1++v2)
 | [],b,hl,c1,c2,v1,v2,h,g=>by
  obtain ⟨rfl,rfl⟩:=h
  exact g
 | a::r,b,hl,c1,c2,v1,v2,h,g=>by
  cases a with
  | new t e xs =>
   obtain ⟨v,d1,u,w1,rfl,rfl,h1,h2,h3⟩:=h
   refine ⟨v,d1++c2,u,w1++v2,rfl,rfl,h1,h2,Ij.append h3 ?_⟩
   simpa only [List.length_cons,Nat.add_assoc] using g
  | _ =>
   obtain ⟨v,d1,rfl,h1,h2⟩:=h
   exact ⟨v,d1++c2,rfl,h1,Ij.append h2 g⟩
theorem Ij.split:∀ {aw:List AV} {hl:Nat->Bool} {cs vs:List Value} (n:Nat),Ij H w hl aw cs vs->∃ va vb,vs=va++vb/\Ij H w hl (aw.take n) (cs.take n) va/\Ij H w (fun m=>hl (m+va.length)) (aw.drop n) (cs.drop n) vb
 | aw,hl,cs,vs,0,h=>⟨[],vs,rfl,by simp [Ij],by simpa using h⟩
 | [],hl,cs,vs,n+1,h=>by
  obtain ⟨rfl,rfl⟩:=h
  exact ⟨[],[],rfl,by simp [Ij],by simp [Ij]⟩
 | a::r,hl,cs,vs,n+1,h=>by
  cases a with
  | new t e xs =>
   obtain ⟨v,d1,u,w1,rfl,rfl,h1,h2,h3⟩:=h
   obtain ⟨va,vb,rfl,g1,g2⟩:=Ij.split n h3
   exact ⟨u::va,vb,rfl,⟨v,d1.take n,u,va,rfl,rfl,h1,h2,g1⟩,by simpa only [List.length_cons,Nat.add_assoc,List.drop_succ_cons] using g2⟩
  | _ =>
   obtain ⟨v,d1,rfl,h1,h2⟩:=h
   obtain ⟨va,vb,rfl,g1,g2⟩:=Ij.split n h2
   exact ⟨va,vb,rfl,⟨v,d1.take n,rfl,h1,g1⟩,g2⟩
theorem Ij.congr:∀ {aw:List AV} {hl hl':Nat->Bool} {cs vs:List Value},(∀ m,m<vs.length->hl m=hl' m)->Ij H w hl aw cs vs->Ij H w hl' aw cs vs
 | [],_,_,_,_,_,h=>h
 | a::r,hl,hl',cs,vs,he,h=>by
  cases a with
  | new t e xs =>
   obtain ⟨v,d1,u,w1,rfl,rfl,h1,h2,h3⟩:=h
   rw [he 0 (by simp)] at h2
   exact ⟨v,d1,u,w1,rfl,rfl,h1,h2,h3.congr fun m hm=>he (m+1) (by simp; omega)⟩
  | _ =>
   obtain ⟨v,d1,rfl,h1,h2⟩:=h
   exact ⟨v,d1,rfl,h1,h2.congr he⟩
theorem Ij.imp {H':HP} (hH:H.le H') {row:Option Nat} (hg:w.grownBy w' row):∀ {aw:List AV} {hl:Nat->Bool} {cs vs:List Value},(∀ m,hl m=false)->Ij H w hl aw cs vs->(∀ u∈vs,∀ b,Dc u=some b->row≠some b)->Ij H' w' hl aw cs vs
 | [],_,_,_,_,h,_=>h
 | a::r,hl,cs,vs,hf,h,hn=>by
  cases a with
  | new t e xs =>
   obtain ⟨v,d1,u,w1,rfl,rfl,h1,h2,h3⟩:=h
   rw [hf 0,if_neg (by simp)] at h2
   obtain ⟨rfl,flat,g1,g2⟩:=h2
   exact ⟨u,d1,u,w1,rfl,rfl,h1,by rw [hf 0,if_neg (by simp)]; exact ⟨rfl,flat,QU g1 hg (hn u (by simp)),fun j x hx=>(g2 j x hx).mono hH⟩,Ij.imp hH hg (fun m=>hf _) h3 fun u hu=>hn u (by simp [hu])⟩
  | _ =>
   obtain ⟨v,d1,rfl,h1,h2⟩:=h
   exact ⟨v,d1,rfl,h1.mono hH,Ij.imp hH hg hf h2 hn⟩
theorem Ij.of_VFs:∀ {aw:List AV} {hl:Nat->Bool} {cs:List Value},Ed H aw cs->Ij H w hl aw cs []
 | [],_,_,h=>⟨h,rfl⟩
 | a::r,hl,cs,⟨v,c1,e,h,hr⟩=>by
  cases a with
  | new t e xs=>exact h.elim
  | _=>exact ⟨v,c1,e,h,Ij.of_VFs hr⟩
theorem Cf.cells:∀ {K:Kd} {hl:Nat->Bool} {x:K.T} {cs vs:List Value},Cf H w hl K x cs vs->Ij H w hl (K.enc x) cs vs:=by
 intro K
 induction K with
 | pair a b iha ihb =>
  intro hl x cs vs h
  obtain ⟨c1,c2,v1,v2,rfl,rfl,h1,h2⟩:=h
  refine (iha h1).append ?_
  rw [h1.vlen]
  exact ihb h2
 | own t e _ =>
  intro hl x cs vs h
  obtain ⟨v,rfl,h1,h⟩:=h
  split at h
  ·rename_i hq
   subst h
   exact ⟨v,[],.tuple #[v],[],rfl,rfl,h1,by rw [if_pos hq],rfl,rfl⟩
  ·rename_i hq
   obtain ⟨rfl,h⟩:=h
   exact ⟨v,[],v,[],rfl,rfl,h1,by rw [if_neg hq]; exact ⟨rfl,h⟩,rfl,rfl⟩
 | _ =>
  intro hl x cs vs h
  obtain ⟨rfl,h⟩:=h
  exact Ij.of_VFs (Ed.of_rep h)
theorem Ij.dec:∀ {K:Kd} {aw r:List AV} {x:K.T} {cs vs:List Value},Ij H w (fun _=>false) aw cs vs->K.dec aw=some (x,r) ->
  ∃ c1 c2 v1 v2,cs=c1++c2/\vs=v1++v2/\Cf H w (fun _=>false) K x c1 v1/\Ij H w (fun _=>false) r c2 v2:=by
 intro K
 induction K with
 | pair a b iha ihb =>
  intro aw r x cs vs h hd
  simp only [Kd.dec] at hd
  cases hx:a.dec aw with
  | none=>simp [hx] at hd
  | some xa =>
   simp only [hx,Z] at hd
   cases hy:b.dec xa.2 with
   | none=>simp [hy] at hd
   | some yb =>
    simp only [hy,Z,Af,Prod.mk.injEq] at hd
    obtain ⟨rfl,rfl⟩:=hd
    obtain ⟨c1,c2,v1,v2,rfl,rfl,r1,h1⟩:=iha h hx
    obtain ⟨d1,d2,w1,w2,rfl,rfl,r2,h2⟩:=ihb h1 hy
    exact ⟨c1++d1,d2,v1++w1,w2,by simp,by simp,⟨c1,d1,v1,w1,rfl,rfl,r1,r2⟩,h2⟩
 | own t e _ =>
  intro aw r x cs vs h hd
  cases aw with
  | nil=>simp [Kd.dec] at hd
  | cons a aw =>
   cases a with
   | new t' e' xs =>
    simp only [Kd.dec] at hd
    split at hd
    ·rename_i ht
     split at hd
     ·rename_i hk
      subst ht hk
      simp only [Af,Prod.mk.injEq] at hd
      obtain ⟨rfl,rfl⟩:=hd
      obtain ⟨v,d1,u,w1,rfl,rfl,h1,h2,h3⟩:=h
      rw [if_neg (by simp)] at h2
      obtain ⟨rfl,h2⟩:=h2
      exact ⟨[u],d1,[u],w1,rfl,rfl,⟨u,rfl,h1,by rw [if_neg (by simp)]; exact ⟨rfl,h2⟩⟩,h3⟩
     ·cases hd
    ·cases hd
   | _=>simp [Kd.dec] at hd
 | ref K _ =>
  intro aw r x cs vs h hd
  cases aw with
  | nil=>simp [Kd.dec] at hd
  | cons a aw =>
   cases a with
   | ref cs'=>obtain ⟨_,_,_,h,_⟩:=h; exact h.elim
   | _=>simp [Kd.dec] at hd
 | int k =>
  intro aw r x cs vs h hd
  cases aw with
  | nil=>simp [Kd.dec] at hd
  | cons a aw =>
   cases a with
   | int k' n =>
    obtain ⟨v,d1,rfl,h1,h2⟩:=h
    obtain ⟨c1,c2,e,g1,g2⟩:=Dd (H:=H) (.int k) (aw:=[.int k' n]) (vs:=[v]) (x:=x) (r:=[]) ⟨v,[],rfl,h1,rfl⟩ (by simp [Kd.dec] at hd ⊢; exact ⟨hd.1,hd.2.1⟩)
    cases g2
    rw [List.append_nil] at e
    subst e
    have:r=aw:=by simp [Kd.dec] at hd; exact hd.2.2.symm
    subst this
    exact ⟨[v],d1,[],vs,rfl,rfl,⟨rfl,g1⟩,h2⟩
   | _=>simp [Kd.dec] at hd
 | bool =>
  intro aw r x cs vs h hd
  cases aw with
  | nil=>simp [Kd.dec] at hd
  | cons a aw =>
   cases a with
   | bool b =>
    obtain ⟨v,d1,rfl,h1,h2⟩:=h
    simp only [Kd.dec,Af,Prod.mk.injEq] at hd
    obtain ⟨rfl,rfl⟩:=hd
    exact ⟨[v],d1,[],vs,rfl,rfl,⟨rfl,by simp only [VF] at h1; simp [C4,h1]⟩,h2⟩
   | _=>simp [Kd.dec] at hd
 | str =>
  intro aw r x cs vs h hd
  cases aw with
  | nil=>simp [Kd.dec] at hd
  | cons a aw =>
   cases a with
   | str b =>
    obtain ⟨v,d1,rfl,h1,h2⟩:=h
    simp only [Kd.dec,Af,Prod.mk.injEq] at hd
    obtain ⟨rfl,rfl⟩:=hd
    exact ⟨[v],d1,[],vs,rfl,rfl,⟨rfl,by simp only [VF] at h1; simp [C4,h1]⟩,h2⟩
   | _=>simp [Kd.dec] at hd
 | slice e _ =>
  intro aw r x cs vs h hd
  cases aw with
  | nil=>simp [Kd.dec] at hd
  | cons a aw =>
   cases a with
   | nil =>
    obtain ⟨v,d1,rfl,h1,h2⟩:=h
    simp only [Kd.dec,Af,Prod.mk.injEq] at hd
    obtain ⟨rfl,rfl⟩:=hd
    simp only [VF] at h1
    exact ⟨[v],d1,[],vs,rfl,rfl,⟨rfl,v,rfl,by rw [h1]; exact F4⟩,h2⟩
   | lst K xs =>
    obtain ⟨v,d1,rfl,h1,h2⟩:=h
    simp only [Kd.dec] at hd
    split at hd
    ·rename_i hk
     subst hk
     simp only [Af,Prod.mk.injEq] at hd
     obtain ⟨rfl,rfl⟩:=hd
     exact ⟨[v],d1,[],vs,rfl,rfl,⟨rfl,v,rfl,h1⟩,h2⟩
    ·cases hd
   | _=>simp [Kd.dec] at hd
 | «fun» f =>
  intro aw r x cs vs h hd
  cases aw with
  | nil=>simp [Kd.dec] at hd
  | cons a aw =>
   cases a with
   | fn f' caps =>
    obtain ⟨v,d1,rfl,h1,h2⟩:=h
    cases caps with
    | nil =>
     simp only [Kd.dec] at hd
     split at hd
     ·rename_i e
      subst e
      cases hd
      obtain ⟨_,rfl⟩:=h1
      exact ⟨[_],d1,[],vs,rfl,rfl,⟨rfl,rfl⟩,h2⟩
     ·cases hd
    | cons _ _=>simp [Kd.dec] at hd
   | _=>simp [Kd.dec] at hd
 | clo f K _ =>
  intro aw r x cs vs h hd
  cases aw with
  | nil=>simp [Kd.dec] at hd
  | cons a aw =>
   cases a with
   | clo f' K' y =>
    obtain ⟨v,d1,rfl,h1,h2⟩:=h
    simp only [Kd.dec] at hd
    split at hd
    ·rename_i e
     subst e
     split at hd
     ·rename_i hk
      subst hk
      simp only [Af,Prod.mk.injEq] at hd
      obtain ⟨rfl,rfl⟩:=hd
      exact ⟨[v],d1,[],vs,rfl,rfl,⟨rfl,v,rfl,h1⟩,h2⟩
     ·cases hd
    ·cases hd
   | _=>simp [Kd.dec] at hd
theorem MM:∀ {ks:List Kd} {vs cl:List AV} {s s1:St} {js:List Nat} {H:HP} {us:List Value},SR H φ s.st w->AX (VC H φ s.st) vs us->s.takeC ks vs=some (cl,s1,js) ->
  ∃ H1,AP H φ s.st w H1 φ s1.st w/\A_ φ s.st φ s1.st none/\s1.fr=s.fr/\s1.st.length=s.st.length/\(∀ {i:Nat} {b:AH},s1.st[i]? = some b->b.live=true->s.st[i]? = some b) /\
   ((∀ j∈js,∃ (t:TypeId) (e:Kd),∃ xs:List (Kd.T e),s1.st[j]? = some (.rows t e xs))->∃ vi,Ij H1 w (fun _=>false) cl us vi/\(∀ v∈vi,∀ b,Dc v=some b->∃ j∈js,BQ (φ j) b)/\(js.Nodup->(vi.filterMap Dc).Nodup))
 | [],[],cl,s,s1,js,H,us,hs,hv,h=>by
  cases h
  cases hv
  exact ⟨H,AP.refl hs,A_.refl _ _ _,rfl,rfl,fun h _=>h,fun _=>⟨[],⟨rfl,rfl⟩,by simp,by simp⟩⟩
 | [],_::_,cl,s,s1,js,H,us,hs,hv,h=>by simp [St.takeC] at h
 | _::_,[],cl,s,s1,js,H,us,hs,hv,h=>by simp [St.takeC] at h
 | k::ks,v::vs,cl,s,s1,js,H,us,hs,⟨u,us',e,hu,hr⟩,h=>by
  subst e
  have plain:(s.keep v).bind (fun x=>(x.2.takeC ks vs).bind fun y=>some (x.1::y.1,y.2))=some (cl,s1,js)->∃ H1,AP H φ s.st w H1 φ s1.st w/\A_ φ s.st φ s1.st none/\s1.fr=s.fr/\s1.st.length=s.st.length/\(∀ {i:Nat} {b:AH},s1.st[i]? = some b->b.live=true->s.st[i]? = some b) /\
   ((∀ j∈js,∃ (t:TypeId) (e:Kd),∃ xs:List (Kd.T e),s1.st[j]? = some (.rows t e xs))->∃ vi,Ij H1 w (fun _=>false) cl (u::us') vi/\(∀ v∈vi,∀ b,Dc v=some b->∃ j∈js,BQ (φ j) b)/\(js.Nodup->(vi.filterMap Dc).Nodup)):=fun h=>by
   cases hk:s.keep v with
   | none=>rw [hk] at h; cases h
   | some x =>
    obtain ⟨a,s0⟩:=x
    rw [hk] at h
    simp only [Z] at h
    obtain ⟨H0,g1,k1,f1,e1,n1⟩:=Ii hs hu hk
    cases hq:s0.takeC ks vs with
    | none=>rw [hq] at h; cases h
    | some y =>
     obtain ⟨cl',s2,js'⟩:=y
     rw [hq] at h
     cases h
     obtain ⟨H1,g2,k2,e2,n2,b2,m2⟩:=MM g1.sr (hr.imp fun _ _ h=>h.mono g1.le k1) hq
     refine ⟨H1,g1.trans g2,k1.trans k2,e2.trans e1,n2.trans n1,fun h hl=>Tr hk (b2 h hl) hl,fun hj=>?_⟩
     obtain ⟨vi,c1,c2,c3⟩:=m2 hj
     refine ⟨vi,?_,c2,c3⟩
     have fa:=f1.mono g2.le
     cases a with
     | new t e xs=>exact fa.elim
     | _=>exact ⟨u,us',rfl,fa,c1⟩
  cases k with
  | own t e =>
   cases v with
   | row j =>
    simp only [St.takeC] at h
    split at h
    ·rename_i t' e' xs hb
     split at h
     ·rename_i hc
      cases hq:s.takeC ks vs with
      | none=>rw [hq] at h; cases h
      | some y =>
       obtain ⟨cl',s2,js'⟩:=y
       rw [hq] at h
       cases h
       obtain ⟨H1,g2,k2,e2,n2,b2,m2⟩:=MM hs hr hq
       refine ⟨H1,g2,k2,e2,n2,b2,fun hj=>?_⟩
       obtain ⟨vi,c1,c2,c3⟩:=m2 fun j hm=>hj j (by simp [hm])
       obtain ⟨t2,e2',xs2,hlive⟩:=hj j (by simp)
       have heq:=b2 hlive rfl
       rw [hb] at heq
       cases heq
       obtain ⟨flat,ho,hrr⟩:=Aj.flat (Kd.plain_ok hc.2) (g2.sr.box j _ hlive)
       obtain ⟨a0,c0,e0⟩:=Aa ho
       have eu:u=φ j:=by rw [hu.1,e0]; rfl
       refine ⟨u::vi,⟨u,us',u,vi,rfl,rfl,by rw [eu,e0]; rfl,by rw [if_neg (by simp)]; exact ⟨rfl,flat,by rw [eu]; exact ho,hrr⟩,c1⟩,fun x hx b hb'=>?_,fun hnd=>?_⟩
       ·rcases AQ.1 hx with rfl | hx
        ·exact ⟨j,by simp,by rw [<- eu]; exact .of hb'⟩
        ·obtain ⟨q,q1,q2⟩:=c2 x hx b hb'
         exact ⟨q,by simp [q1],q2⟩
       ·obtain ⟨hn1,hn2⟩:=List.nodup_cons.1 hnd
        rw [List.filterMap_cons]
        cases hbu:Dc u with
        | none=>exact c3 hn2
        | some b =>
         refine List.nodup_cons.2 ⟨fun hm=>?_,c3 hn2⟩
         obtain ⟨x,hx,hxb⟩:=List.mem_filterMap.1 hm
         obtain ⟨q,q1,q2⟩:=c2 x hx b hxb
         obtain ⟨t3,e3,xs3,hl3⟩:=hj q (by simp [q1])
         exact g2.sr.sep q j _ _ hl3 hlive rfl rfl (fun e=>hn1 (e▸q1)) b q2 (by rw [<- eu]; exact .of hbu)
     ·cases h
    ·cases h
   | nil =>
    simp only [St.takeC] at h
    cases hq:s.takeC ks vs with
    | none=>rw [hq] at h; cases h
    | some y =>
     obtain ⟨cl',s2,js'⟩:=y
     rw [hq] at h
     cases h
     obtain ⟨H1,g2,k2,e2,n2,b2,m2⟩:=MM hs hr hq
     refine ⟨H1,g2,k2,e2,n2,b2,fun hj=>?_⟩
     obtain ⟨vi,c1,c2,c3⟩:=m2 hj
     have hu:u=.slice none 0 0:=hu
     subst hu
     exact ⟨.slice none 0 0::vi,⟨_,us',_,vi,rfl,rfl,rfl,by rw [if_neg (by simp)]; exact ⟨rfl,[],⟨by simp,.inl ⟨rfl,rfl⟩⟩,fun j x hx=>by simp at hx⟩,c1⟩,fun x hx b hb'=>by
      rcases AQ.1 hx with rfl | hx
      ·cases hb'
      ·exact c2 x hx b hb',fun hnd=>by rw [List.filterMap_cons_none rfl]; exact c3 hnd⟩
   | _=>simp [St.takeC] at h
  | _=>simp only [St.takeC] at h; exact plain h

theorem U0 {t:TypeId} {sz n m b cap o:Nat} {h:Value} {flat ws:List Value} (ho:w.ownsRow 0 t sz h n flat) (hh:h=.slice (some ⟨b,0,none⟩) m cap) (hle:o+ws.length<=n*sz) :
  ∃ cur,w.heap[b]? = some (.cells cur t (0,0))/\o+ws.length<=cur.size /\
   (w.setRow b (cur.toList.take o++ws++cur.toList.drop (o+ws.length)).toArray).ownsRow 0 t sz h n (flat.take o++ws++flat.drop (o+ws.length)):=by
 rcases ho.2 with ⟨e3,hn⟩ | ⟨g,cap',cur,e3,_,hg,hc,hm,hcs,ht⟩
 ·rw [hh] at e3; cases e3
 rw [hh] at e3
 simp only [Value.slice.injEq,Af,Addr.mk.injEq] at e3
 obtain ⟨⟨rfl,_⟩,_,rfl⟩:=e3
 have hle2:n*sz<=cap*sz:=Bj _ hc
 have hfit:o+ws.length<=cur.toList.length:=by simp only [Array.length_toList]; omega
 have hfit2:o+ws.length<=flat.length:=by rw [ho.1]; omega
 refine ⟨cur,hg,by omega,?_,.inr ⟨b,cap,_,?_,Nat.zero_le _,setRow_heap w b _ _ t (0,0) hg,hc,hm,?_,?_⟩⟩
 ·rw [CP _ _ _ hfit2]; exact ho.1
 ·rw [hh]; simp_all
 ·simp only [List.size_toArray]
  rw [CP _ _ _ hfit]
  simpa using hcs
 ·apply List.ext_getElem?
  intro k
  rw [BB,BR _ _ _ _ hfit,BR _ _ _ _ hfit2,<- ht]
  simp only [BB]
  by_cases hk1:k<n*sz
  ·simp [hk1]
  ·rw [if_neg hk1]
   simp only [hk1,if_false]
   rw [if_neg (by omega),if_neg (by omega)]
theorem Wv {flat ws:List Value} {sz i j off:Nat} (hji:j≠i) (hoff:off+ws.length<=sz) (hfit:i*sz+off+ws.length<=flat.length) :
  (((flat.take (i*sz+off)++ws++flat.drop (i*sz+off+ws.length)).drop (j*sz)).take sz)=((flat.drop (j*sz)).take sz):=by
 apply List.ext_getElem?
 intro k
 simp only [BB,Ba]
 rw [BR _ _ _ _ hfit]
 by_cases hk:k<sz
 ·simp only [hk,if_true]
  rcases Nat.lt_or_gt_of_ne hji with hlt' | hgt'
  ·have:(j+1)*sz<=i*sz:=Bj _ hlt'
   rw [Nat.succ_mul] at this
   rw [if_pos (by omega)]
  ·have:(i+1)*sz<=j*sz:=Bj _ hgt'
   rw [Nat.succ_mul] at this
   rw [if_neg (by omega),if_neg (by omega)]
 ·simp only [hk,if_false]
theorem XV {flat ws:List Value} {sz i off:Nat} (hoff:off+ws.length<=sz) (hfit:i*sz+off+ws.length<=flat.length) (hsl:((flat.drop (i*sz)).take sz).length=sz) :
  (((flat.take (i*sz+off)++ws++flat.drop (i*sz+off+ws.length)).drop (i*sz)).take sz)=((flat.drop (i*sz)).take sz).take off++ws++((flat.drop (i*sz)).take sz).drop (off+ws.length):=by
 apply List.ext_getElem?
 intro k
 rw [BR _ _ _ _ (by rw [hsl]; exact hoff)]
 simp only [BB,Ba]
 rw [BR _ _ _ _ hfit]
 by_cases hk:k<sz
 ·simp only [hk,if_true]
  by_cases h1:k<off
  ·rw [if_pos (by omega),if_pos h1]
  ·rw [if_neg (by omega),if_neg h1]
   by_cases h2:k<off+ws.length
   ·rw [if_pos (by omega),if_pos h2]
    congr 1
    omega
   ·rw [if_neg (by omega),if_neg h2]
 ·simp only [hk,if_false]
  rw [if_neg (by omega),if_neg (by omega)]
theorem Ww {X vm Y us:List Value} (h:((X++vm++Y).filterMap Dc).Nodup) (hu:(us.filterMap Dc).Nodup) (hd:∀ v∈us,∀ b,Dc v=some b->∀ x∈X++Y,Dc x≠some b):((X++us++Y).filterMap Dc).Nodup:=by
 have hp:(X++us++Y).Perm (us++(X++Y)):=by
  rw [<- CL]
  exact List.perm_append_comm.append_right Y
 rw [(hp.filterMap Dc).nodup_iff,List.filterMap_append,List.nodup_append]
 have hs:(X++Y).Sublist (X++vm++Y):=(List.sublist_append_left X vm).append_right Y
 refine ⟨hu,h.sublist (hs.filterMap Dc),fun a ha b hb e=>?_⟩
 subst e
 obtain ⟨v,hv,hva⟩:=List.mem_filterMap.1 ha
 obtain ⟨x,hx,hxa⟩:=List.mem_filterMap.1 hb
 exact hd v hv a hva x hx hxa
theorem N1 {α:Type}:∀ {vss:List (List α)} {i:Nat} {vs vs':List α},vss[i]? = some vs->vss.flatten=(vss.take i).flatten++vs++(vss.drop (i+1)).flatten/\(vss.set i vs').flatten=(vss.take i).flatten++vs'++(vss.drop (i+1)).flatten
 | [],i,vs,vs',h=>by simp at h
 | v::vss,0,vs,vs',h=>by simp at h; subst h; simp
 | v::vss,i+1,vs,vs',h=>by
  obtain ⟨h1,h2⟩:=N1 (vs':=vs') (show vss[i]? = some vs by simpa using h)
  exact ⟨by simp [h1],by simp [h2]⟩
theorem Aj.store {hl:Nat->Nat->Bool} {v:Value} {t:TypeId} {K:Kd} {xs:List K.T} {b n cap i off q:Nat} {cl r':List AV} {ws us:List Value} {x':K.T} (h:Aj H w hl v t K xs) (hi:i<xs.length) (hv:hdr v=.slice (some ⟨b,0,none⟩) n cap)
  (hoff:off+cl.length<=K.sz) (hc:Ij H w (fun _=>false) cl ws us) (hd:K.dec (Ap (K.enc (xs.getD i K.zero)) off cl)=some (x',r'))
  (hhl:hl=C7\/(hl=E0 i q/\cl.length=1/\AG ((K.enc (xs.getD i K.zero)).take off)=q/\AG ((K.enc (xs.getD i K.zero)).take (off+1))=q+1))
  (hus:(us.filterMap Dc).Nodup) (hdis:∀ u∈us,∀ c,Dc u=some c->¬BQ v c) :
  ∃ cur v',w.heap[b]? = some (.cells cur t (0,0))/\i*K.sz+off+ws.length<=cur.size /\
   Aj H (w.setRow b (cur.toList.take (i*K.sz+off)++ws++cur.toList.drop (i*K.sz+off+ws.length)).toArray) C7 v' t K (xs.set i x')/\hdr v'=hdr v/\(∀ c,BQ v' c->BQ v c\/∃ u∈us,Dc u=some c)/\BQ v b:=by
 obtain ⟨hd0,flat,vss,rfl,how,hlen,hnd,hr⟩:=h
 obtain ⟨a0,c0,e0⟩:=Aa how
 have hnt:∀ vs,hd0≠.tuple vs:=by rw [e0]; simp
 have hbm:∀ {l:List Value} {c:Nat},BQ (Rc hd0 l) c↔∃ u∈hd0::l,Dc u=some c:=fun {l c}=>D6 ⟨_,_,_,e0⟩
 rw [D5 hnt] at hv
 obtain ⟨n1,n2,n3⟩:=hc.news
 have hws:ws.length=cl.length:=n2
 have hx:xs[i]? = some (xs.getD i K.zero):=by simp [List.getD,hi]
 have hvs:vss[i]? = some (vss[i]'(by omega)):=by simp
 generalize vss[i]'(by omega)=vs at hvs
 have hn:=hr i _ _ hx hvs
 generalize hx0:xs.getD i K.zero=x0 at hd hhl hx hn
 have hle1:(i+1)*K.sz<=xs.length*K.sz:=Bj _ hi
 rw [Nat.succ_mul] at hle1
 obtain ⟨cur,c1,c2,c3⟩:=U0 (o:=i*K.sz+off) (ws:=ws) how hv (by omega)
 have hfit:i*K.sz+off+ws.length<=flat.length:=by rw [how.1]; omega
 have hsl:((flat.drop (i*K.sz)).take K.sz).length=K.sz:=hn.clen
 have hcells:=hn.cells
 have hel:∃ va vm vb,vs=va++vm++vb/\Ij H w (fun _=>false) ((K.enc x0).take off) (((flat.drop (i*K.sz)).take K.sz).take off) va /\
   Ij H w (fun _=>false) ((K.enc x0).drop (off+cl.length)) (((flat.drop (i*K.sz)).take K.sz).drop (off+cl.length)) vb:=by
  obtain ⟨va,vr,e1,s1,s2⟩:=hcells.split off
  obtain ⟨vm,vb,e2,s3,s4⟩:=s2.split cl.length
  rw [List.drop_drop,List.drop_drop] at s4
  subst e1
  subst e2
  refine ⟨va,vm,vb,by simp,?_,?_⟩
  ·rcases hhl with e | ⟨e,_,e3,_⟩
   ·rw [e] at s1; exact s1
   ·refine s1.congr fun m hm=>?_
    have:=s1.news.1
    rw [e3] at this
    subst e
    have:m≠q:=by omega
    simp [E0,this]
  ·rcases hhl with e | ⟨e,el,e3,e4⟩
   ·rw [e] at s4; exact s4
   ·refine s4.congr fun m hm=>?_
    have l1:=s1.news.1
    have l3:=s3.news.1
    have l2:=hcells.news.1
    have e5:AG ((K.enc x0).take (off+1))=va.length+vm.length:=by
     rw [el] at s3
     have:=(s1.append s3).news.1
     rw [List.take_add,this,List.length_append]
    rw [e4] at e5
    rw [e3] at l1
    subst e
    have:m+vm.length+va.length≠q:=by omega
    simp [E0,this]
 obtain ⟨va,vm,vb,evs,s1,s2⟩:=hel
 have hput:Ij H w (fun _=>false) (Ap (K.enc x0) off cl) (((flat.drop (i*K.sz)).take K.sz).take off++ws++((flat.drop (i*K.sz)).take K.sz).drop (off+ws.length)) (va++us++vb):=by
  rw [G2 cl _ off (by rw [Io]; exact hoff),hws]
  exact (s1.append hc).append s2
 obtain ⟨d1,d2,w1,w2,f1,f2,f3,f4⟩:=Ij.dec hput hd
 have hl2:(((flat.drop (i*K.sz)).take K.sz).take off++ws++((flat.drop (i*K.sz)).take K.sz).drop (off+ws.length)).length=K.sz:=by
  rw [CP _ _ _ (by rw [hsl,hws]; exact hoff)]
  exact hsl
 have hd2:d2=[]:=by
  have:=congrArg List.length f1
  rw [hl2,List.length_append,f3.clen] at this
  exact Dk.1 (by omega)
 subst hd2
 have hr0:r'=[]:=Dk.1 (by have:=f4.news.2.1; simpa using this.symm)
 subst hr0
 have hw2:w2=[]:=f4.2
 subst hw2
 rw [List.append_nil] at f1 f2
 have hgr:=Ct w b (cur.toList.take (i*K.sz+off)++ws++cur.toList.drop (i*K.sz+off+ws.length)).toArray
 have hbh:Dc hd0=some b:=by rw [hv]; rfl
 have hnb:∀ u∈vss.flatten,∀ c,Dc u=some c->some b≠some c:=fun u hu c hcu e=>by
  cases e
  rw [List.filterMap_cons,hbh] at hnd
  exact (List.nodup_cons.1 hnd).1 (List.mem_filterMap.2 ⟨u,hu,hcu⟩)
 have hub:∀ u∈us,∀ c,Dc u=some c->some b≠some c:=fun u hu c hcu e=>by
  cases e
  exact hdis u hu b hcu (hbm.2 ⟨hd0,by simp,hbh⟩)
 obtain ⟨p1,p2⟩:=N1 (vs':=va++us++vb) hvs
 have hsub:∀ u∈va++vb,u∈vss.flatten:=fun u hu=>by
  rw [p1,evs]
  simp only [Am] at hu ⊢
  rcases hu with h | h
  ·exact .inl (.inr (.inl (.inl h)))
  ·exact .inl (.inr (.inr h))
 refine ⟨cur,Rc hd0 (vss.set i (va++us++vb)).flatten,c1,c2,⟨hd0,flat.take (i*K.sz+off)++ws++flat.drop (i*K.sz+off+ws.length),_,rfl,by rw [List.length_set]; exact c3,by simpa using hlen,?_,fun j x vs' hx' hj=>?_⟩,by rw [D5 hnt,D5 hnt],fun c hbc=>?_,hbm.2 ⟨hd0,by simp,hbh⟩⟩
 ·rw [p2]
  have e1:hd0::((vss.take i).flatten++(va++us++vb)++(vss.drop (i+1)).flatten)=(hd0::((vss.take i).flatten++va))++us++(vb++(vss.drop (i+1)).flatten):=by simp
  rw [e1]
  have e2:hd0::vss.flatten=(hd0::((vss.take i).flatten++va))++vm++(vb++(vss.drop (i+1)).flatten):=by rw [p1,evs]; simp
  rw [e2] at hnd
  refine Ww hnd hus fun u hu c hcu x hx hxc=>hdis u hu c hcu (hbm.2 ⟨x,?_,hxc⟩)
  rw [e2]
  simp only [Am,AQ] at hx ⊢
  rcases hx with h | h
  ·exact .inl (.inl h)
  ·exact .inr h
 ·by_cases e:j=i
  ·subst e
   rw [AU] at hx' hj
   simp only [hi,show j<vss.length by omega,if_true,Af] at hx' hj
   subst hx' hj
   rw [XV (by omega) hfit hsl]
   refine Cf.congr (fun m _=>rfl) (Cf.imp (HP.le_refl H) hgr (hl:=fun _=>false) ?_ fun u hu c hcu=>?_)
   ·rw [f1,f2]
    exact f3
   ·rw [f2] at hu
    rw [<- f2] at hu
    simp only [Am] at hu
    rcases hu with (h | h) | h
    ·exact hnb u (hsub u (by simp [h])) c hcu
    ·exact hub u h c hcu
    ·exact hnb u (hsub u (by simp [h])) c hcu
  ·rw [AU,if_neg (Ne.symm e)] at hx' hj
   rw [Wv e (by omega) hfit]
   refine Cf.imp (HP.le_refl H) hgr ((hr j x vs' hx' hj).congr fun m _=>?_) fun u hu c hcu=>hnb u (List.mem_flatten.2 ⟨vs',List.mem_of_getElem? hj,hu⟩) c hcu
   rcases hhl with e2 | ⟨e2,_⟩
   ·rw [e2]
   ·rw [e2]; simp [E0,C7,e]
 ·obtain ⟨u,hu,hcu⟩:=hbm.1 hbc
  rw [p2] at hu
  rcases AQ.1 hu with h | hu
  ·exact .inl (hbm.2 ⟨u,by simp [h],hcu⟩)
  ·simp only [Am] at hu
   have old:∀ u∈vss.flatten,Dc u=some c->BQ (Rc hd0 vss.flatten) c:=fun u hu hc=>hbm.2 ⟨u,by simp [hu],hc⟩
   rcases hu with (h | (h | h) | h) | h
   ·exact .inl (old u (by rw [p1]; simp [h]) hcu)
   ·exact .inl (old u (hsub u (by simp [h])) hcu)
   ·exact .inr ⟨u,h,hcu⟩
   ·exact .inl (old u (hsub u (by simp [h])) hcu)
   ·exact .inl (old u (by rw [p1]; simp [h]) hcu)

theorem U1 {s s':St} {id i off:Nat} {K0:Kd} {pv:Value} {aw:List AV} {v:Value} {t:TypeId} {tmps:Array Value} (hs:SR H φ s.st w) (hf:Ca H φ s.st s.fr tmps) (hp:VC H φ s.st (.eptr id i off) pv)
  (hv:AX (VC H φ s.st) aw v.cells.toList) (h:s.storeN id i off K0 aw=some s') (hsz:Vh P t aw.length=true) (hh:∀ m t K xs i' q,s.st[id]? = some (.hole m t K xs i' q)->i=i') :
  ∃ H' φ' w',(Instr.storeAt t pv v).run P w=.ok () w'/\AP H φ s.st w H' φ' s'.st w'/\Ca H' φ' s'.st s'.fr tmps /\
   ∀ (k:Nat) (bx:AH),s.st[k]? = some bx->bx.live=true->k≠id->∀ b,BQ (φ k) b->w'.heap[b]? = w.heap[b]? := by
 unfold St.storeN at h
 cases hq:s.takeC ((K0.leaves.drop off).take aw.length) aw with
 | none=>rw [hq] at h; cases h
 | some z =>
  obtain ⟨cl,s1,js⟩:=z
  rw [hq] at h
  simp only [Z] at h
  split at h
  case isFalse=>cases h
  rename_i hchk
  simp only [AD,DH] at hchk
  obtain ⟨⟨hnd,hni⟩,hlv⟩:=hchk
  have hnd:=NF hnd
  have hni:=Ak.1 hni
  have hlv:=Jp hlv
  obtain ⟨H1,g1,k1,fe,_,bk,hC⟩:=MM hs hv hq
  obtain ⟨vi,hC1,hC2,hC3⟩:=hC hlv
  have hp:=VC.mono g1.le k1 (a:=.eptr id i off) hp
  have hf:Ca H1 φ s1.st s1.fr tmps:=by rw [fe]; exact hf.mono g1.le k1
  obtain ⟨b,n,cap,K,hk,hi,e1,e2⟩:=hp
  obtain ⟨n1,n2,n3⟩:=hC1.news
  have hal:aw.length=cl.length:=by rw [<- n2]; exact hv.length.symm
  have main:∀ (t0:TypeId) (K':Kd) (xs:List K'.T) (hl:Nat->Nat->Bool) (bx bx':AH) (x':K'.T) (r':List AV) (q:Nat),s1.st[id]? = some bx->bx.live=true->(∀ cs,bx≠.var cs)->(∀ cs,bx'≠.var cs)->Aj H1 w hl (φ id) t0 K' xs->i<xs.length->K'.sz=K.sz->off+cl.length<=K'.sz ->
    K'.dec (Ap (K'.enc (xs.getD i K'.zero)) off cl)=some (x',r')->(hl=C7\/(hl=E0 i q/\cl.length=1/\AG ((K'.enc (xs.getD i K'.zero)).take off)=q/\AG ((K'.enc (xs.getD i K'.zero)).take (off+1))=q+1)) ->
    (∀ (w2:World) (v':Value),Aj H1 w2 C7 v' t0 K' (xs.set i x')->Ee H1 w2 v' bx')->(AE [bx'] 0).isSome=true->AE [bx'] 0=AE [bx] 0->bx'.hold=bx.hold ->
    s'=⟨s1.fr.map (Cq js),(D3 js (s1.st.map (AH.kill js))).set id bx'⟩ ->
    ∃ H' φ' w',(Instr.storeAt t pv v).run P w=.ok () w'/\AP H φ s.st w H' φ' s'.st w'/\Ca H' φ' s'.st s'.fr tmps /\
     ∀ (k:Nat) (bx:AH),s.st[k]? = some bx->bx.live=true->k≠id->∀ b,BQ (φ k) b->w'.heap[b]? = w.heap[b]? := by
   intro t0 K' xs hl bx bx' x' r' q hb hlive hnv hnv' hR hi hKK hoff hd hhl hbox hki hkk hho es
   subst es
   have hdis:∀ u∈vi,∀ c,Dc u=some c->¬BQ (φ id) c:=fun u hu c hcu e=>by
    obtain ⟨j,j1,j2⟩:=hC2 u hu c hcu
    obtain ⟨tj,ej,xj,hj⟩:=hlv j j1
    exact g1.sr.sep j id _ bx hj hb rfl hlive (fun e=>hni (e▸j1)) c j2 e
   obtain ⟨cur,v',c1,c2,c3,c4,c5,c6⟩:=Aj.store hR hi e1 hoff hC1 hd hhl (hC3 hnd) hdis
   have hws:v.cells.toList.length=cl.length:=n2
   have hcs:v.cells.size=aw.length:=by rw [<- Array.length_toList,hws,hal]
   have hrun:=Ib (P:=P) (t:=t) (v:=v) c1 (by rw [hcs]; exact hsz) (o:=i*K'.sz+off) (by simpa using c2) n3
   have hold':(bx'.hold=true/\hdr v'=hdr (φ id))\/bx.hold=false:=by
    cases hb2:bx.hold with
    | true=>exact .inl ⟨hho.trans hb2,c4⟩
    | false=>exact .inr rfl
   have M:Lu H1 φ s1.st w id bx bx' v' js js (some b) _:={
    sr:=g1.sr
    at_:=hb
    live:=hlive
    old:=hnv
    new:=hnv'
    kd:=hki
    rows:=fun j hj=>⟨fun e=>hni (e▸hj),hlv j hj⟩
    sub:=fun _ h=>h
    grown:=Ct w b _
    mine:=fun c e=>by cases e; exact c6
    rep:=hbox _ _ c3
    blks:=fun c hc=>by
     rcases c5 c hc with h | ⟨u,hu,hcu⟩
     ·exact .inl h
     ·exact .inr (.inl (hC2 u hu c hcu))
    hdr:=.inr ⟨c4,hkk⟩
    hold:=hold' }
   refine ⟨H1,_,_,by rw [e2,<- hKK]; exact hrun,g1.trans M.step,hf.kill M.keeps,fun k bk' hk' hl' hn' b' hb'=>?_⟩
   refine (Ct w b _).block b' ((hs.box k bk' hk').blk_lt hl' hb') (fun e=>?_)
   cases e
   have hb0:s.st[id]? = some bx:=bk hb hlive
   exact hs.sep k id bk' bx hk' hb0 hl' hlive hn' _ hb' c6
  split at h
  ·rename_i t0 K' xs hb
   split at h
   case isFalse=>cases h
   rename_i hoff
   simp only [AE,hb,Af,Prod.mk.injEq] at hk
   obtain ⟨rfl,rfl⟩:=hk
   cases hd:K'.dec (Ap (K'.enc (xs.getD i K'.zero)) off cl) with
   | none=>rw [hd] at h; cases h
   | some y =>
    rw [hd] at h
    exact main t0 K' xs C7 _ (.rows t0 K' (xs.set i y.1)) y.1 y.2 0 hb rfl (by simp) (by simp) (g1.sr.box id _ hb) hi rfl hoff hd (.inl rfl) (fun _ _ h=>h) rfl (by simp [AE]) rfl (Option.some.inj h).symm
  ·rename_i t0 K' xs hb
   split at h
   case isFalse=>cases h
   rename_i hoff
   simp only [AE,hb,Af,Prod.mk.injEq] at hk
   obtain ⟨rfl,rfl⟩:=hk
   cases hd:K'.dec (Ap (K'.enc (xs.getD i K'.zero)) off cl) with
   | none=>rw [hd] at h; cases h
   | some y =>
    rw [hd] at h
    exact main t0 K' xs C7 _ (.mrow t0 K' (xs.set i y.1)) y.1 y.2 0 hb rfl (by simp) (by simp) (g1.sr.box id _ hb) hi rfl hoff hd (.inl rfl) (fun _ _ h=>h) rfl (by simp [AE]) rfl (Option.some.inj h).symm
  ·rename_i m t0 K' xs i' q hb
   obtain rfl:=hh _ _ _ _ _ _ (bk hb rfl)
   split at h
   case isFalse=>cases h
   rename_i hcond
   obtain ⟨l1,l2,l3,l4⟩:=hcond
   simp only [AE,hb,Af,Prod.mk.injEq] at hk
   obtain ⟨rfl,rfl⟩:=hk
   cases hd:K'.dec (Ap (K'.enc (xs.getD i K'.zero)) off cl) with
   | none=>rw [hd] at h; cases h
   | some y =>
    rw [hd] at h
    refine main t0 K' xs (E0 i q) _ (Gy m t0 K' (xs.set i y.1)) y.1 y.2 q hb rfl (by simp) (by cases m<;>simp [Gy]) (g1.sr.box id _ hb) hi rfl (by omega) hd (.inr ⟨rfl,l1,l3,l4⟩) (fun _ _ hh=>by cases m<;>exact hh) ?_ ?_ ?_ (Option.some.inj h).symm
    ·cases m<;>rfl
    ·cases m<;>simp [Gy,AE]
    ·cases m<;>rfl
  ·cases h
theorem UL {s s':St} {own:Bool} {p:AV} {pv:Value} {aw:List AV} {v:Value} {t:TypeId} {tmps:Array Value} (hs:SR H φ s.st w) (hf:Ca H φ s.st s.fr tmps) (hp:VC H φ s.st p pv)
  (hv:AX (VC H φ s.st) aw v.cells.toList) (h:s.storeAt own p aw=some s') (hsz:Vh P t aw.length=true) (hh:∀ x,s.holeI p=some x->x.1=x.2) :
  ∃ H' φ' w',(Instr.storeAt t pv v).run P w=.ok () w'/\AP H φ s.st w H' φ' s'.st w'/\Ca H' φ' s'.st s'.fr tmps /\
   ∀ (i:Nat) (bx:AH),s.st[i]? = some bx->bx.live=true->(∀ id,((∃ off,p=.ptr id off)\/∃ j off,p=.eptr id j off)->i≠id)->∀ b,BQ (φ i) b->w'.heap[b]? = w.heap[b]? := by
 by_cases hown:∀ id i off,p=.eptr id i off->Wl s.st id=none
 ·exact TS hs hf hp hv h hsz hown
 ·simp only [Classical.not_forall] at hown
  obtain ⟨id,i,off,rfl,hne⟩:=hown
  cases hK:Wl s.st id with
  | none=>exact absurd hK hne
  | some K =>
   simp only [St.storeAt,hK] at h
   obtain ⟨H',φ',w',r1,r2,r3,r4⟩:=U1 hs hf hp hv h hsz (fun m t K xs i' q e=>hh (i,i') (by simp only [St.holeI,e]))
   exact ⟨H',φ',w',r1,r2,r3,fun k bx hk hl hn=>r4 k bx hk hl (hn id (.inr ⟨i,off,rfl⟩))⟩
def ZP (H:HP) (φ:BF) (w:World) (s s':St) (n id:Nat) (tmps:Array Value):Prop :=
  ∃ φ' i q,Cd s.fr n=.irow id i q/\AP H φ s.st w H φ' s'.st w/\Ca H φ' s'.st s'.fr tmps/\s'.st.length=s.st.length+1 /\
   ∃ (m:Bool) (t:TypeId) (K:Kd) (xs:List K.T) (r:SN) (u:Value),s'.st[id]? = some (.hole m t K xs i q)/\s'.st[s.st.length]? = some (.rows r.t r.e r.xs)/\K.innG (xs.getD i K.zero) q=some r/\i<xs.length/\q<K.nown/\id<s.st.length /\
    Wn (φ' id) (i*K.nown+q)=some (.tuple #[u])/\φ' s.st.length=u/\(∃ a c,u=.slice a r.xs.length c)/\s'.fr=(n,.row s.st.length)::s.fr.map (Cq [])/\(∀ k,k≠id->k<s.st.length->s'.st[k]? = s.st[k]? /\ φ' k=φ k)/\(∀ b,BQ (φ' s.st.length) b->BQ (φ id) b)/\s.st[id]? = some (Gy m t K xs)
theorem Ts {s s':St} {n id:Nat} {tmps:Array Value} (hs:SR H φ s.st w) (hf:Ca H φ s.st s.fr tmps) (h:s.openAt n=some (id,s')):ZP H φ w s s' n id tmps:=by
 unfold St.openAt at h
 have hn:=hf n
 split at h
 ·rename_i id' i q hg
  rw [hg] at hn
  obtain ⟨N,K0,hk,hi,hq,hu⟩:=(hn:VC H φ s.st (.irow id' i q) _)
  have main:∀ (m:Bool) (t:TypeId) (K:Kd) (xs:List K.T) (bx:AH),s.st[id']? = some bx->bx=Gy m t K xs ->
    ((K.innG (xs.getD i K.zero) q).bind fun r=>some (id',(⟨(n,.row s.st.length)::s.fr.map (Cq []),s.st.set id' (.hole m t K xs i q)++[.rows r.t r.e r.xs]⟩:St)))=some (id,s')->ZP H φ w s s' n id tmps:=fun m t K xs bx hb eb h=>by
   have hR:Aj H w C7 (φ id') t K xs:=by
    have:=hs.box id' _ hb
    subst eb
    cases m<;>exact this
   have hk2:AE s.st id'=some (K,xs.length):=by
    rw [E3 hb,eb]
    cases m<;>simp [Gy,AE]
   rw [hk2] at hk
   simp only [Af,Prod.mk.injEq] at hk
   obtain ⟨rfl,rfl⟩:=hk
   cases hr:K.innG (xs.getD i K.zero) q with
   | none=>rw [hr] at h; cases h
   | some r =>
    rw [hr] at h
    cases h
    obtain ⟨o1,o2,o3,o4,o5,o6⟩:=Aj.out hR hi hr hu
    have hlt:id<s.st.length:=(AT.1 hb).1
    obtain ⟨flat,ho,hrr⟩:=o1
    obtain ⟨s1,s2⟩:=Vm (bx1:=.hole m t K xs i q) (bx2:=.rows r.t r.e r.xs) hs hb (by subst eb; cases m<;>rfl) rfl (by subst eb; cases m<;>simp [Gy]) (by simp) (by simp) o2 (Aj.of_flat ho hrr) (fun b hb=>(o6 b hb).1) o5 (fun b hb=>(o6 b hb).2) o3
     (by subst eb; cases m<;>simp [Gy,AE]) (by simp [AE]) (by subst eb; cases m<;>rfl)
    have hf2:=hf.kill s2
    have hne:id≠s.st.length:=by omega
    refine ⟨_,i,q,hg,s1,fun tt=>?_,by simp,m,t,K,xs,r,tmps.getD n undef,?_,?_,hr,hi,hq,hlt,?_,?_,?_,rfl,fun k hk1 hk2=>⟨?_,?_⟩,fun b hb=>?_,by rw [hb,eb]⟩
    ·simp only [Cd]
     by_cases e:n=tt
     ·subst e
      rw [if_pos rfl]
      obtain ⟨_,_,eu⟩:=Aa ho
      refine ⟨?_,by simp [AE]⟩
      simp only [if_true]
      rw [eu]
      rfl
     ·rw [if_neg e]; exact hf2 tt
    ·rw [AZ (by simpa using hlt),AU]; simp [hlt]
    ·rw [BG (by simp)]; simp
    ·simp only [hne,if_false,if_true]; exact o4
    ·simp
    ·obtain ⟨a,c,e⟩:=Aj.slice (hl:=C7) (Aj.of_flat ho hrr)
     obtain ⟨a2,c2,e2⟩:=Aa ho
     rw [e2] at e ⊢
     exact ⟨a,c,e⟩
    ·rw [AZ (by simpa using hk2),AU,if_neg (Ne.symm hk1)]
    ·simp [Nat.ne_of_lt hk2,hk1]
    ·simp only [if_true] at hb
     exact o5 b hb
  split at h
  ·rename_i t K xs hb
   exact main false t K xs _ hb rfl h
  ·rename_i t K xs hb
   exact main true t K xs _ hb rfl h
  ·cases h
 ·cases h
theorem Vo {s s':St} {id k:Nat} {rd:Bool} {tmps:Array Value} {m:Bool} {t:TypeId} {K:Kd} {xs:List K.T} {i q:Nat} {u:Value} (hs:SR H φ s.st w) (hf:Ca H φ s.st s.fr tmps) (h:s.closeAt id k rd=some s')
  (hid:s.st[id]? = some (.hole m t K xs i q)) (hi:i<xs.length) (hq:q<K.nown) (hu:Wn (φ id) (i*K.nown+q)=some (.tuple #[u])) (hk:hdr (φ k)=u) (hne:k≠id)
  (hrd:rd=true->∃ r:SN,s.st[k]? = some (.rows r.t r.e r.xs)/\K.innG (xs.getD i K.zero) q=some r) :
  ∃ φ',AP H φ s.st w H φ' s'.st w/\Ca H φ' s'.st s'.fr tmps:=by
 unfold St.closeAt at h
 rw [hid] at h
 simp only at h
 cases hb:s.st[k]? with
 | none=>rw [hb] at h; cases h
 | some bk =>
  cases bk with
  | rows t' e ys =>
   rw [hb] at h
   simp only at h
   split at h
   ·cases h
   rename_i hpl
   obtain ⟨flat,ho,hrr⟩:=Aj.flat (Kd.plain_ok (by simpa using hpl)) (hs.box k _ hb)
   obtain ⟨a0,c0,e0⟩:=Aa ho
   have eu:φ k=u:=by rw [<- hk,e0]; rfl
   have hOwn:Ws H w ⟨t',e,ys⟩ u:=⟨flat,by rw [<- eu]; exact ho,hrr⟩
   have main:∀ x',K.innS (xs.getD i K.zero) q ⟨t',e,ys⟩=some x'->s'=⟨s.fr.map (Cq [k]),((s.st.map (AH.kill [k])).set k .dead).set id (Gy m t K (xs.set i x'))⟩->∃ φ',AP H φ s.st w H φ' s'.st w/\Ca H φ' s'.st s'.fr tmps:=by
    intro x' hx' es
    subst es
    obtain ⟨r1,r2,r3⟩:=Aj.back (hs.box id _ hid) hi hq hu hx' hOwn (fun b hb1 hb2=>hs.sep k id _ _ hb hid rfl rfl hne b (by rw [eu]; exact hb1) hb2)
    have hold':((Gy m t K (xs.set i x')).hold=true/\hdr (QZ (φ id) (i*K.nown+q) u)=hdr (φ id))\/(AH.hole m t K xs i q).hold=false:=by
     cases m
     ·exact .inr rfl
     ·exact .inl ⟨rfl,r2⟩
    have M:Lu H φ s.st w id (.hole m t K xs i q) (Gy m t K (xs.set i x')) (QZ (φ id) (i*K.nown+q) u) [k] [k] none w:={
     sr:=hs
     at_:=hid
     live:=rfl
     old:=by simp
     new:=by cases m<;>simp [Gy]
     kd:=by cases m<;>rfl
     rows:=fun j hj=>by rw [CM.1 hj]; exact ⟨hne,t',e,ys,hb⟩
     sub:=fun _ h=>h
     grown:=Ga w
     mine:=fun _ e=>by cases e
     rep:=by cases m<;>exact r1
     blks:=fun b hb'=>by
      rcases r3 b hb' with h | h
      ·exact .inl h
      ·exact .inr (.inl ⟨k,by simp,by rw [eu]; exact h⟩)
     hdr:=.inr ⟨r2,by cases m<;>simp [Gy,AE]⟩
     hold:=hold' }
    exact ⟨_,M.step,hf.kill M.keeps⟩
   split at h
   ·rename_i hr
    obtain ⟨r,hr1,hr2⟩:=hrd hr
    rw [hb] at hr1
    cases hr1
    have hx:=Wt hr2
    refine main (xs.getD i K.zero) hx ?_
    have:xs.set i (xs.getD i K.zero)=xs:=by
     have:xs.getD i K.zero=xs[i]:=by simp [List.getD,hi]
     rw [this,List.set_getElem_self]
    rw [this]
    exact (Option.some.inj h).symm
   ·cases hx:K.innS (xs.getD i K.zero) q ⟨t',e,ys⟩ with
    | none=>rw [hx] at h; cases h
    | some x' =>
     rw [hx] at h
     exact main x' hx (Option.some.inj h).symm
  | _=>rw [hb] at h; cases h
end Go.Proofs.Ytffahmnodgnohaa.Core

namespace Go.Proofs.Ytffahmnodgnohaa.Core
open Go
variable {H:HP} {φ:BF} {st:List AH} {w:World} {P:Program}
theorem Qa (base:Nat) (t ty e:TypeId) (i:TypeInfo) (size:Nat) (ht:P.underlying t=some (.slice e)) (hi:P.info? e=some i)
  (v:Value) (n c:Nat) (xs:List Value) (hown:w.ownsRow base e size v n xs):(Builtin.append_ #[t,t] ty #[v,.slice none 0 c]).run P w=.ok v w:=by
 rcases hown.2 with ⟨rfl,rfl⟩ | ⟨g,cap,cur,rfl,_,_,hnc,_⟩
 ·simp [Builtin.append_,run_underlying ht,sizeOf,typeInfo,hi,Builtin.lenOf,Builtin.firstCells]
 ·simp [Builtin.append_,run_underlying ht,sizeOf,typeInfo,hi,Builtin.lenOf,Builtin.firstCells,hnc,storeCells]
def Fq:Kd->List Value->Option (List Value)
 | .int k,.int k' n::r=>if k=k'/\n=0 then some r else none
 | .bool,.bool b::r=>if b=false then some r else none
 | .str,.string s::r=>if s=AA then some r else none
 | .slice _,.slice none 0 0::r=>some r
 | .own _ _,.slice none 0 0::r=>some r
 | .pair a b,cs=>(Fq a cs).bind (Fq b)
 | _,_=>none
def Tt (K:Kd) (c:List Value):Prop:=∃ vs,vs.filterMap Dc=[]/\∀ (H:HP) (w:World),Cf H w (fun _=>false) K K.zero c vs
theorem XW:∀ (K:Kd) (cs r:List Value),Fq K cs=some r->∃ c,cs=c++r/\Tt K c:=by
 intro K
 induction K with
 | int k =>
  intro cs r h
  cases cs with
  | nil=>simp [Fq] at h
  | cons v cs =>
   cases v<;>simp [Fq] at h
   obtain ⟨⟨rfl,rfl⟩,rfl⟩:=h
   exact ⟨[_],rfl,[],rfl,fun _ _=>⟨rfl,rfl⟩⟩
 | bool =>
  intro cs r h
  cases cs with
  | nil=>simp [Fq] at h
  | cons v cs =>
   cases v<;>simp [Fq] at h
   obtain ⟨rfl,rfl⟩:=h
   exact ⟨[_],rfl,[],rfl,fun _ _=>⟨rfl,rfl⟩⟩
 | str =>
  intro cs r h
  cases cs with
  | nil=>simp [Fq] at h
  | cons v cs =>
   cases v<;>simp [Fq] at h
   obtain ⟨rfl,rfl⟩:=h
   exact ⟨[_],rfl,[],rfl,fun _ _=>⟨rfl,rfl⟩⟩
 | slice e ih =>
  intro cs r h
  cases cs with
  | nil=>simp [Fq] at h
  | cons v cs =>
   have:v=.slice none 0 0/\cs=r:=by
    unfold Fq at h
    split at h<;>simp_all
   obtain ⟨rfl,rfl⟩:=this
   exact ⟨[_],rfl,[],rfl,fun _ _=>⟨rfl,_,rfl,F4⟩⟩
 | pair a b iha ihb =>
  intro cs r h
  simp only [Fq] at h
  cases h1:Fq a cs with
  | none=>rw [h1] at h; cases h
  | some r1 =>
   rw [h1] at h
   simp only [Z] at h
   obtain ⟨c1,e1,v1,b1,g1⟩:=iha _ _ h1
   obtain ⟨c2,e2,v2,b2,g2⟩:=ihb _ _ h
   exact ⟨c1++c2,by rw [e1,e2,CL],v1++v2,by simp [b1,b2],fun H w=>⟨c1,c2,v1,v2,rfl,rfl,g1 H w,g2 H w⟩⟩
 | own t e ih =>
  intro cs r h
  cases cs with
  | nil=>simp [Fq] at h
  | cons v cs =>
   have:v=.slice none 0 0/\cs=r:=by
    unfold Fq at h
    split at h<;>simp_all
   obtain ⟨rfl,rfl⟩:=this
   exact ⟨[_],rfl,[.slice none 0 0],rfl,fun _ _=>⟨_,rfl,rfl,by rw [if_neg (by simp)]; exact ⟨rfl,[],⟨by simp [Kd.zero],.inl ⟨rfl,rfl⟩⟩,fun j x hx=>by simp [Kd.zero] at hx⟩⟩⟩
 | ref K ih=>intro cs r h; simp [Fq] at h
 | «fun» f=>intro cs r h; simp [Fq] at h
 | clo f K ih=>intro cs r h; simp [Fq] at h
def XP (P:Program) (e:TypeId) (K:Kd):Bool :=
 match P.info? e with
 | some i=>i.size==K.sz&&decide (i.bytes<=2048)&&(match i.zero.map fun z=>Fq K z.cells.toList with | some (some [])=>true | _=>false)
 | none=>false
theorem PW {e:TypeId} {K:Kd} (h:XP P e K=true):∃ i z,P.info? e=some i/\i.zero=some z/\i.size=K.sz/\i.bytes<=2048/\z.cells.size=K.sz/\Tt K z.cells.toList:=by
 unfold XP at h
 cases hi:P.info? e with
 | none=>rw [hi] at h; cases h
 | some i =>
  rw [hi] at h
  simp only [AD,beq_iff_eq,decide_eq_true_eq] at h
  obtain ⟨⟨h1,h2⟩,h3⟩:=h
  cases hz:i.zero with
  | none=>rw [hz] at h3; cases h3
  | some z =>
   rw [hz] at h3
   simp only [Option.map_some] at h3
   have hq:Fq K z.cells.toList=some []:=by
    split at h3
    ·rename_i e; simpa using e
    ·cases h3
   have hr:Tt K z.cells.toList:=by
    obtain ⟨c,e1,e2⟩:=XW K _ _ hq
    rw [List.append_nil] at e1
    rw [e1]
    exact e2
   refine ⟨i,z,rfl,hz,h1,h2,?_,hr⟩
   obtain ⟨vs,_,hn⟩:=hr
   have:=(hn (fun _=>none) default).clen
   simpa using this
theorem Tt.plain {K:Kd} {c:List Value} (h:Tt K c) (hp:K.nown=0):∀ H,C4 H K K.zero c:=fun H=>by
 obtain ⟨vs,_,hn⟩:=h
 exact ((Cf.plain hp).1 (hn H default)).2
theorem KX {K:Kd} {xs ys:List K.T} {f g:List Value} (hf:CI H K xs f) (hl:f.length=xs.length*K.sz) (hg:CI H K ys g):CI H K (xs++ys) (f++g):=by
 intro j x hx
 rcases BI j xs.length with hj | hj
 ·rw [AZ hj] at hx
  have:=hf j x hx
  have hle:(j+1)*K.sz<=xs.length*K.sz:=Bj _ hj
  rw [Nat.succ_mul] at hle
  have e:((f++g).drop (j*K.sz)).take K.sz=(f.drop (j*K.sz)).take K.sz:=by
   rw [List.drop_append_of_le_length (by omega),List.take_append_of_le_length (by simp; omega)]
  rw [e]
  exact this
 ·rw [BG hj] at hx
  have:=hg _ x hx
  have e:((f++g).drop (j*K.sz)).take K.sz=(g.drop ((j-xs.length)*K.sz)).take K.sz:=by
   have hle:xs.length*K.sz<=j*K.sz:=Bj _ hj
   rw [List.drop_append,List.drop_eq_nil_of_le (by omega),List.nil_append,hl,Nat.sub_mul]
  rw [e]
  exact this
theorem MN:∀ {K:Kd} {x:K.T} {cs:List Value},C4 H K x cs->∀ v∈cs,v.oneCell'=true:=fun h=>(Ed.of_rep h).oneCell
theorem MO {K:Kd} {xs:List K.T} {f:List Value} (hf:CI H K xs f) (hl:f.length=xs.length*K.sz):∀ v∈f,v.oneCell'=true:=by
 intro v hv
 obtain ⟨k,hk,rfl⟩:=Gm hv
 have hsz:=Kd.sz_pos K
 have hj:k / K.sz<xs.length:=(Nat.div_lt_iff_lt_mul hsz).2 (by omega)
 have h:=hf (k / K.sz) (xs[k / K.sz]) (by simp)
 refine MN h f[k] ?_
 have hm:=Nat.mod_lt k hsz
 have hdm:=Nat.div_add_mod k K.sz
 rw [Nat.mul_comm] at hdm
 refine List.mem_iff_getElem?.2 ⟨k % K.sz,?_⟩
 rw [BB,if_pos hm,Ba,hdm]
 simp [hk]
theorem UM {e t ty:TypeId} {K:Kd} {h:Value} {n m:Nat} {flat flat2:List Value} {sl:Option Addr} {cap2:Nat} (ht:P.underlying t=some (.slice e)) (he:XP P e K=true)
  (ho:w.ownsRow 0 e K.sz h n flat) (hl2:flat2.length=m*K.sz) (h1':∀ u∈flat2,u.oneCell'=true)
  (hc2:sl=none\/m=0\/∃ b off,sl=some ⟨b,off,none⟩/\∀ j u,flat2[j]? = some u->w.cell? ⟨b,off+j,none⟩=some u) (hn2:sl=none->m=0) (hlim:n+m<=68719476736) :
  ∃ v' w',(Builtin.append_ #[t,t] ty #[h,.slice sl m cap2]).run P w=.ok v' w'/\w'.ownsRow 0 e K.sz v' (n+m) (flat++flat2)/\w.grownBy w' (Dc h)/\∀ b,BQ v' b->BQ h b\/w.heap.size<=b:=by
 obtain ⟨i,z,hi,hz,h1,h2,h3,_⟩:=PW he
 have hsz:=Kd.sz_pos K
 have hb:(n+m)*i.bytes<=140737488355328:=by
  calc (n+m)*i.bytes<=68719476736*2048:=Nat.mul_le_mul hlim h2
   _=140737488355328:=by decide
 have hml:n+m<=maxLen:=by simp only [maxLen]; omega
 have hbl:Dc h=h.ownBlock:=by
  rcases ho.2 with ⟨e3,_⟩ | ⟨g,cap,cur,e3,_⟩<;>rw [e3]<;>rfl
 cases sl with
 | none =>
  obtain rfl:=hn2 rfl
  have hf2:flat2=[]:=Dk.1 (by simpa using hl2)
  subst hf2
  exact ⟨h,w,Qa (P:=P) (w:=w) 0 t ty e i K.sz ht hi h n cap2 flat ho,by simpa using ho,⟨rfl,rfl,rfl,Nat.le_refl _,fun _ _ _=>rfl⟩,fun b hb=>.inl hb⟩
 | some a =>
  have hnews:∀ j u,flat2[j]? = some u->w.cell? (a.add j)=some u:=by
   rcases hc2 with h | h | ⟨b,off,h,g⟩
   ·cases h
   ·subst h
    have hf2:flat2=[]:=Dk.1 (by simpa using hl2)
    subst hf2
    intro j u hu; simp at hu
   ·cases h
    intro j u hu
    rw [Addr.add_mid]
    exact g j u hu
  obtain ⟨v',w',hrun,ho',hg',_⟩:=run_append_own (P:=P) w 0 t ty e i z K.sz i.bytes ht hi hz h1 rfl h3 hsz h n flat ho a m cap2 flat2 hl2 hnews
   h1' hml hb (Nat.zero_le _)
  refine ⟨v',w',hrun,ho',by rw [hbl]; exact hg',?_⟩
  rcases ho.2 with ⟨e3,hn⟩ | ⟨g,cap,cur,e3,_,hg,hnc,hcm,hcs,htake⟩
  ·-- a nil row: what comes of it is new,or nil
   obtain ⟨v2,w2,hrun2,ho2,_,_⟩:=run_append_own (P:=P) w w.heap.size t ty e i z K.sz i.bytes ht hi hz h1 rfl h3 hsz h n flat
    ⟨ho.1,.inl ⟨e3,hn⟩⟩ a m cap2 flat2 hl2 hnews h1' hml hb (Nat.le_refl _)
   have e4:=hrun.symm.trans hrun2
   simp only [Result.ok.injEq] at e4
   obtain ⟨rfl,rfl⟩:=e4
   intro b hb'
   right
   rcases ho2.2 with ⟨e5,_⟩ | ⟨g',cap',cur',e5,hbase,_⟩
   ·rw [e5] at hb'; cases hb'
   ·rw [e5] at hb'
    simp only [BQ] at hb'
    omega
  ·by_cases hroom:n+m<=cap
   ·have hfit:n*i.size+flat2.length<=cur.size:=by rw [hl2,hcs,h1,<- Nat.add_mul]; exact Bj _ hroom
    have hrun2:=run_append_room (P:=P) w t ty e i ht hi g n cap cur hg a m cap2 flat2 (by rw [h1]; exact hl2) hnews h1' hroom hfit
    rw [<- e3] at hrun2
    have e4:=hrun.symm.trans hrun2
    simp only [Result.ok.injEq] at e4
    obtain ⟨rfl,_⟩:=e4
    intro b hb'
    left
    rw [e3]
    exact hb'
   ·have holds:∀ j u,flat[j]? = some u->w.cell? ((⟨g,0,none⟩:Addr).add j)=some u:=ho.cells (g:=g) (by rw [e3]; rfl)
    have hrun2:=run_append_grow (P:=P) w t ty e i z ht hi hz ⟨g,0,none⟩ n cap flat (by rw [h1]; exact ho.1) holds a m cap2 flat2 (by rw [h1]; exact hl2) hnews
     (by omega) (by omega) (growslice_fits (by omega) hb)
    rw [<- e3] at hrun2
    have e4:=hrun.symm.trans hrun2
    simp only [Result.ok.injEq] at e4
    obtain ⟨rfl,_⟩:=e4
    intro b hb'
    right
    simp only [BQ] at hb'
    omega
theorem UN {id:Nat} {e t ty:TypeId} {K:Kd} {xs ys:List K.T} {bv:Value} {flat2:List Value} {sl:Option Addr} {cap2:Nat}
  (hp:K.plain=true) (hs:SR H φ st w) (hid:st[id]? = some (.rows e K xs)) (ht:P.underlying t=some (.slice e)) (he:XP P e K=true)
  (e2:bv=.slice sl ys.length cap2) (hl2:flat2.length=ys.length*K.sz) (hr2:CI H K ys flat2)
  (hc2:sl=none\/ys=[]\/∃ b off,sl=some ⟨b,off,none⟩/\∀ j u,flat2[j]? = some u->w.cell? ⟨b,off+j,none⟩=some u) (hn2:sl=none->ys=[])
  (hlim:xs.length+ys.length<=68719476736) (hnone:∀ (k:Nat) (cs:List AV),st[k]? = some (AH.var cs)->∀ (o:Nat),cs[o]? ≠ some (AV.row id)) :
  ∃ v' w',(Builtin.append_ #[t,t] ty #[hdr (φ id),bv]).run P w=.ok v' w' /\
   AP H φ st w H (fun i=>if i=id then v' else φ i) (st.set id (.rows e K (xs++ys))) w'/\w.grownBy w' (Dc (φ id))/\hdr v'=v':=by
 obtain ⟨flat,ho,hr⟩:=Aj.flat (Kd.plain_ok hp) (hs.box id _ hid)
 obtain ⟨a0,c0,e0⟩:=Aa ho
 have hh:hdr (φ id)=φ id:=by rw [e0]; rfl
 subst e2
 obtain ⟨v',w',r1,r2,r3,r4⟩:=UM (P:=P) (ty:=ty) (cap2:=cap2) ht he ho hl2 (MO hr2 hl2) (by
  rcases hc2 with h | h | h
  ·exact .inl h
  ·exact .inr (.inl (by rw [h]; rfl))
  ·exact .inr (.inr h)) (fun h=>by rw [hn2 h]; rfl) hlim
 rw [hh]
 refine ⟨v',w',r1,?_,r3,?_⟩
 ·exact AP.update hs hid rfl r3 (Aj.of_flat (by rw [List.length_append]; exact r2) (KX hr ho.1 hr2)) r4 (.inr (by simp only [AL,hid]; rfl)) (fun k cs hk o hq=>absurd hq (hnone k cs hk o)) (fun cs hcs=>by cases hcs)
 ·obtain ⟨a1,c1,e1⟩:=Aa r2
  rw [e1]; rfl
theorem RL {id:Nat} {e t ty:TypeId} {K:Kd} {xs ys:List K.T} {bv:Value} {flat2:List Value} {sl:Option Addr} {cap2:Nat}
  (hp:K.plain=true) (hs:SR H φ st w) (hid:st[id]? = some (.rows e K xs)) (ht:P.underlying t=some (.slice e)) (he:XP P e K=true)
  (e2:bv=.slice sl ys.length cap2) (hl2:flat2.length=ys.length*K.sz) (hr2:CI H K ys flat2)
  (hc2:sl=none\/ys=[]\/∃ b off,sl=some ⟨b,off,none⟩/\∀ j u,flat2[j]? = some u->w.cell? ⟨b,off+j,none⟩=some u) (hn2:sl=none->ys=[])
  (hlim:xs.length+ys.length<=68719476736) :
  ∃ v' w',(Builtin.append_ #[t,t] ty #[hdr (φ id),bv]).run P w=.ok v' w' /\
   AP H φ st w H (fun i=>if i=id then v' else φ i) ((st.map (AH.kill [id])).set id (.rows e K (xs++ys))) w' /\
   BU φ st (fun i=>if i=id then v' else φ i) ((st.map (AH.kill [id])).set id (.rows e K (xs++ys))) [id]/\w.grownBy w' (Dc (φ id))/\hdr v'=v':=by
 have hid':(st.map (AH.kill [id]))[id]? = some (.rows e K xs):=by rw [BT,hid]; rfl
 obtain ⟨v',w',h1,h2,h3⟩:=UN (P:=P) (ty:=ty) hp (hs.kill [id]) hid' ht he e2 hl2 hr2 hc2 hn2 hlim fun k cs hk o hq=>by
  have:=Gb hk hq
  simp [Az] at this
 have go:∀ j,j≠id->((st.map (AH.kill [id])).set id (.rows e K (xs++ys)))[j]? = (st.map (AH.kill [id]))[j]? := fun j hj=>by rw [AU,if_neg (Ne.symm hj)]
 have hvn:AL st id=false:=by simp only [AL,hid]; rfl
 refine ⟨v',w',h1,(AP.kill hs [id]).trans h2,⟨fun j hn _=>?_,fun j hv=>?_⟩,h3⟩
 ·have hj:j≠id:=fun e=>by subst e; simp [Az] at hn
  refine ⟨by simp [hj],?_,?_⟩
  ·rw [<- De (AN [id]) st j]; simp only [AE,go j hj]
  ·rw [<- Cm (AN [id]) st j]; simp only [AS,go j hj]
 ·have hj:j≠id:=fun e=>by subst e; rw [hvn] at hv; cases hv
  have t1:AL ((st.map (AH.kill [id])).set id (.rows e K (xs++ys))) j=AL (st.map (AH.kill [id])) j:=by simp only [AL,go j hj]
  have t2:AS ((st.map (AH.kill [id])).set id (.rows e K (xs++ys))) j=AS (st.map (AH.kill [id])) j:=by simp only [AS,go j hj]
  exact ⟨by simp [hj],by rw [t1,Cs (AN [id])]; exact hv,by rw [t2,Cm (AN [id])]⟩
def U2 (t:TypeId) (H:HP) (φ:BF) (st:List AH) (a:AV) (u:Value):Prop:=(∀ p,VW H p t a u)/\∀ i,a=.row i->(AE st i).isSome=true/\u=hdr (φ i)
theorem MK.toT {t:TypeId} {H:HP} {φ:BF} {st:List AH} {a:AV} {u:Value} (h:MK H φ st a u):U2 t H φ st a u:=⟨fun p=>h.1 p t,h.2⟩
theorem RM (hs:SR H φ st w) {t:TypeId} {v:Value} {cs:List AV} (hv:AX (U2 t H φ st) cs v.cells.toList) :
  (newVar t v).run P w=.ok ⟨w.heap.size,0,none⟩ (w.alloc (.cells v.cells t)) /\
   AP H φ st w H (fun i=>if i=st.length then .pointer (some ⟨w.heap.size,0,none⟩) else φ i) (st++[.var cs]) (w.alloc (.cells v.cells t)):=by
 refine ⟨by simp [newVar,newRow],AP.push hs (World.grownBy_alloc w _ none) ⟨w.heap.size,v.cells,t,rfl,heap_alloc_new w _,hv.imp fun _ _ h=>h.1 _⟩ (fun _ b hb=>?_) (fun cs' e o i ho=>?_)⟩
 ·simp only [BQ] at hb
  omega
 ·cases e
  obtain ⟨u,hu,ht⟩:=hv.get o _ ho
  obtain ⟨h1,h2⟩:=ht.2 i rfl
  refine ⟨h1,_,rfl,?_⟩
  simp only [World.cell?,heap_alloc_new]
  rw [<- h2]
  simpa using hu
def ZC (T:TypeId) (H:HP) (a:AV) (v:Value):Prop:=(∃ t K,a=.new t K []/\v=.slice none 0 0)\/VF H a v\/(a=.self T/\v=.pointer none)
theorem ST {k:Nat} {a:AV} {r:List AV} {v:Value} (h:VF H a v):Aq k (a::r)=a::Aq k r/\Ae (a::r)=Ae r/\AG (a::r)=AG r:=by
 cases a<;>first | exact ⟨rfl,rfl,rfl⟩ | exact h.elim
theorem Kn {T:TypeId}:∀ {cs:List AV} {vs:List Value} {st:List AH} {φ:BF},AX (ZC T H) cs vs->SR H φ st w ->
  ∃ φ',AP H φ st w H φ' (st++Ae cs) w/\A_ φ st φ' (st++Ae cs) none/\AX (U2 T H φ' (st++Ae cs)) (Aq st.length cs) vs/\(st++Ae cs).length=st.length+AG cs
 | [],vs,st,φ,h,hs=>by
  cases h
  simp only [Ae,List.append_nil,Aq]
  exact ⟨φ,AP.refl hs,A_.refl _ _ _,rfl,rfl⟩
 | a::cs,vs,st,φ,⟨v,r,e,h,hr⟩,hs=>by
  subst e
  rcases h with ⟨t,K,rfl,rfl⟩ | h | ⟨rfl,rfl⟩
  ·have hst:AP H φ st w H (fun i=>if i=st.length then .slice none 0 0 else φ i) (st++[.rows t K []]) w :=
    AP.push hs ⟨rfl,rfl,rfl,Nat.le_refl _,fun _ _ _=>rfl⟩ (Aj.of_flat (flat:=[]) ⟨by simp,.inl ⟨rfl,rfl⟩⟩ fun j x hx=>by simp at hx) (fun _ b hb=>by simp [BQ] at hb) (fun cs e=>by cases e)
   obtain ⟨φ',g1,g2,g3,g4⟩:=Kn hr hst.sr
   have e1:st++Ae (.new t K []::cs)=(st++[.rows t K []])++Ae cs:=by simp [Ae]
   have e2:Aq st.length (.new t K []::cs)=.row st.length::Aq (st++[AH.rows t K []]).length cs:=by simp [Aq]
   rw [e1,e2]
   refine ⟨φ',hst.trans g1,(CO φ st _ _).trans g2,⟨_,_,rfl,⟨fun _=>trivial,fun i e=>?_⟩,g3⟩,?_⟩
   ·cases e
    obtain ⟨k1,k2,_⟩:=g2 st.length (by simp) (.inl (by simp [AE]))
    refine ⟨by rw [k2]; simp [AE],by rw [k1]; simp [hdr]⟩
   ·rw [g4]; simp [AG,AV.isNew]; omega
  ·obtain ⟨o1,o2,o3⟩:=ST (k:=st.length) (r:=cs) h
   rw [o1,o2,o3]
   obtain ⟨φ',g1,g2,g3,g4⟩:=Kn hr hs
   exact ⟨φ',g1,g2,⟨_,_,rfl,(MK.of_VF h).toT,g3⟩,g4⟩
  ·obtain ⟨φ',g1,g2,g3,g4⟩:=Kn hr hs
   exact ⟨φ',g1,g2,⟨_,_,rfl,⟨fun _=>⟨rfl,.inl rfl⟩,fun i e=>by cases e⟩,g3⟩,g4⟩
theorem PX (hs:SR H φ st w) {w':World} {e:TypeId} {K:Kd} {xs:List K.T} {v:Value} (hg:w.grownBy w' none) (hR:Aj H w' C7 v e K xs) (hn:∀ b,BQ v b->w.heap.size<=b) :
  AP H φ st w H (fun i=>if i=st.length then v else φ i) (st++[.rows e K xs]) w':=AP.push hs hg hR (fun _ b hb=>hn b hb) (fun cs e=>by cases e)
theorem NG {e:TypeId} {n m base:Nat} {v:Value} {flat:List Value} (ho:w.ownsRow base e n v m flat):w.ownsRow 0 e n v m flat/\∀ b,BQ v b->base<=b:=by
 refine ⟨⟨ho.1,?_⟩,fun b hb=>?_⟩
 ·rcases ho.2 with h | ⟨g,cap,cur,e1,_,r⟩
  ·exact .inl h
  ·exact .inr ⟨g,cap,cur,e1,Nat.zero_le _,r⟩
 ·rcases ho.2 with ⟨e1,_⟩ | ⟨g,cap,cur,e1,h1,_⟩
  ·rw [e1] at hb; cases hb
  ·rw [e1] at hb
   simp only [BQ] at hb
   omega
theorem U3 (hs:SR H φ st w) {w':World} {e:TypeId} {K:Kd} {xs:List K.T} {v:Value} {flat:List Value} (hg:w.grownBy w' none)
  (ho:w'.ownsRow w.heap.size e K.sz v xs.length flat) (hr:CI H K xs flat) :
  AP H φ st w H (fun i=>if i=st.length then v else φ i) (st++[.rows e K xs]) w':=PX hs hg (Aj.of_flat (NG ho).1 hr) (NG ho).2
end Go.Proofs.Ytffahmnodgnohaa.Core

namespace Go.Proofs.Ytffahmnodgnohaa.Core
open Go
variable {H:HP} {φ:BF} {w:World} {P:Program}
def Qb:Value->AV->Bool
 | .int k n,.int k' n'=>decide (k=k')&&decide (n=n')
 | .bool b,.bool b'=>b==b'
 | .string s,.str s'=>decide (s=s')
 | .slice none 0 0,.nil=>true
 | .slice none 0 0,.lst _ xs=>xs.isEmpty
 | _,_=>false
theorem NH {v:Value} {a:AV} (h:Qb v a=true):VF H a v:=by
 unfold Qb at h
 split at h
 ·simp only [AD,decide_eq_true_eq] at h
  obtain ⟨rfl,rfl⟩:=h
  rfl
 ·simp only [beq_iff_eq] at h
  subst h
  rfl
 ·simp only [decide_eq_true_eq] at h
  subst h
  rfl
 ·rfl
 ·rw [List.isEmpty_iff] at h
  subst h
  exact F4
 ·cases h
def Bw:Operand->BS->Bool
 | .tmp t,.t n=>t==n
 | .const _,.c .undef=>true
 | .const v,.c a=>Qb v a
 | .func f,.c (.fn g caps)=>f==g&&caps.isEmpty
 | _,_=>false
theorem An {s:St} {act:Act} {x:Operand} {y:BS} (hf:Ca H φ s.st s.fr act.tmps) (h:Bw x y=true):VA H φ s.st (s.opd y) (act.eval x):=by
 unfold Bw at h
 split at h
 ·simp only [beq_iff_eq] at h
  subst h
  exact hf _
 ·trivial
 ·exact VA.of_VF (NH h)
 ·simp only [AD,beq_iff_eq,List.isEmpty_iff] at h
  obtain ⟨rfl,rfl⟩:=h
  exact ⟨rfl,rfl⟩
 ·cases h
def SD (W:List Nat) (φ:BF) (st:List AH) (w w':World):Prop :=
 ∀ (i:Nat) (bx:AH),st[i]? = some bx->bx.live=true->i∉W->∀ b,BQ (φ i) b->w'.heap[b]? = w.heap[b]?
theorem SD.refl (W:List Nat) (φ:BF) (st:List AH) (w:World):SD W φ st w w:=fun _ _ _ _ _ _ _=>rfl
theorem SD.grown {W:List Nat} {st:List AH} {w w':World} (hs:SR H φ st w) (hg:w.grownBy w' none):SD W φ st w w' :=
 fun i bx hi hl _ b hb=>hg.block b ((hs.box i bx hi).blk_lt hl hb) (by simp)
def CJ (o:Oper) (act:Act) (w w2:World):Prop:=match o.op with
 | .load _ y=>∀ b,BQ (act.eval y) b->w2.heap[b]? = w.heap[b]?
 | _=>True
theorem CJ.refl (o:Oper) (act:Act) (w:World):CJ o act w w:=by
 unfold CJ
 split
 ·exact fun _ _=>rfl
 ·trivial
structure WG (P:Program) (o:Oper) (ao:Cj) (s:St) (act:Act) (φ:BF) (w w':World) (v:Value):Prop where
 mem:SD (ao.touch s) φ s.st w w'
 val:ao.isVal=true->w'=w/\∀ w2,CJ o act w w2->(execOp act.eval o).run P w2=.ok (.value v) w2
def ET (P:Program) (n:Nat) (o:Oper) (ao:Cj) (cal:Cz):Prop :=
 ∀ (ρ:Type) (kn:St->Option ρ) (r:ρ) (s:St) (act:Act) (w:World) (H:HP) (φ:BF) (next:Act->World->Prop) (Q:Exit->Act->World->Prop),
  SR H φ s.st w->Ca H φ s.st s.fr act.tmps->act.tmps.size=n->CN cal kn s ao=some r ->
  (∀ s' v w' H' φ',kn s'=some r->AP H φ s.st w H' φ' s'.st w'->Ca H' φ' s'.st s'.fr (act.put o.dst v).tmps->WG P o ao s act φ w w' v->next (act.put o.dst v) w') ->
  o.wp P act w next Q
theorem MP {o:Oper} {act:Act} {w:World} {next:Act->World->Prop} {Q:Exit->Act->World->Prop} {v:Value} {w':World}
  (hrun:(execOp act.eval o).run P w=.ok (.value v) w') (h:next (act.put o.dst v) w'):o.wp P act w next Q:=by
 unfold Oper.wp
 rw [hrun]
 exact h
theorem Ip {act:Act} {dst:Option Tmp} {d:Nat} (hd:dst=some d) (v:Value):(act.put dst v).tmps=act.tmps.setIfInBounds d v:=by
 subst hd; rfl
theorem plain_ok {o:Oper} {ao:Cj} {n d:Nat} {s:St} {act:Act} {a:AV} {v:Value} {next:Act->World->Prop} {Q:Exit->Act->World->Prop} {ρ:Type} {kn:St->Option ρ} {r:ρ}
  (hs:SR H φ s.st w) (hf:Ca H φ s.st s.fr act.tmps) (hn:act.tmps.size=n) (hd:o.dst=some d) (hdn:d<n) (hk:kn (s.put d a)=some r)
  (hrun:∀ w2,CJ o act w w2->(execOp act.eval o).run P w2=.ok (.value v) w2) (hv:VA H φ s.st a v)
  (hnext:∀ s' v w' H' φ',kn s'=some r->AP H φ s.st w H' φ' s'.st w'->Ca H' φ' s'.st s'.fr (act.put o.dst v).tmps->WG P o ao s act φ w w' v->next (act.put o.dst v) w'):o.wp P act w next Q :=
 MP (hrun w (CJ.refl o act w)) (hnext (s.put d a) v w H φ hk (AP.refl hs) (by rw [Ip hd]; exact hf.put (by omega) hv) ⟨SD.refl _ _ _ _,fun _=>⟨rfl,hrun⟩⟩)
def FS (o:Oper) (n d:Nat):Bool:=o.dst==some d&&decide (d<n)
theorem BC {o:Oper} {n d:Nat} (h:FS o n d=true):o.dst=some d/\d<n:=by simpa [FS] using h
def aM (n:Nat) (o:Oper) (d:Nat) (x:BS):Bool :=
 FS o n d&&(match o.op with | .move y=>Bw y x | .assign y=>Bw y x | _=>false)
theorem Z3 {n:Nat} {o:Oper} {d:Nat} {x:BS} {cal:Cz} (h:aM n o d x=true):ET P n o (.mv d x) cal:=by
 intro ρ kn r s act w H φ next Q hs hf hn hk hnext
 simp only [aM,AD] at h
 obtain ⟨h1,h2⟩:=h
 obtain ⟨hd,hdn⟩:=BC h1
 simp only [CN] at hk
 split at h2
 ·rename_i y ho
  exact plain_ok hs hf hn hd hdn hk (v:=act.eval y) (fun _ _=>by simp [execOp,ho]) (An hf h2) hnext
 ·rename_i y ho
  exact plain_ok hs hf hn hd hdn hk (v:=act.eval y) (fun _ _=>by simp [execOp,ho]) (An hf h2) hnext
 ·cases h2
def RN (n:Nat) (o:Oper) (d:Nat) (c a b:BS):Bool :=
 FS o n d&&(match o.op with | .pick c' a' b'=>Bw c' c&&Bw a' a&&Bw b' b | _=>false)
theorem VA.bool {a:AV} {st:List AH} {v:Value} {b:Bool} (h:VA H φ st a v) (e:a=.bool b):v=.bool b:=by subst e; exact h
theorem VA.int {a:AV} {st:List AH} {v:Value} {k:IntKind} {n:Int} (h:VA H φ st a v) (e:a=.int k n):v=.int k n:=by subst e; exact h
theorem VA.str {a:AV} {st:List AH} {v:Value} {b:ByteArray} (h:VA H φ st a v) (e:a=.str b):v=.string b:=by subst e; exact h
theorem YY {n:Nat} {o:Oper} {d:Nat} {c a b:BS} {cal:Cz} (h:RN n o d c a b=true):ET P n o (.pick d c a b) cal:=by
 intro ρ kn r s act w H φ next Q hs hf hn hk hnext
 simp only [RN,AD] at h
 obtain ⟨h1,h2⟩:=h
 obtain ⟨hd,hdn⟩:=BC h1
 split at h2
 ·rename_i c' a' b' ho
  simp only [AD] at h2
  obtain ⟨⟨hc,ha⟩,hb⟩:=h2
  simp only [CN] at hk
  cases hcv:s.opd c with
  | bool t =>
   rw [hcv] at hk
   simp only at hk
   have hc':=(An hf hc).bool hcv
   cases t with
   | true=>exact plain_ok hs hf hn hd hdn (by simpa using hk) (v:=act.eval a') (fun _ _=>by simp [execOp,ho,hc',asBool]) (An hf ha) hnext
   | false=>exact plain_ok hs hf hn hd hdn (by simpa using hk) (v:=act.eval b') (fun _ _=>by simp [execOp,ho,hc',asBool]) (An hf hb) hnext
  | _=>rw [hcv] at hk; cases hk
 ·cases h2
end Go.Proofs.Ytffahmnodgnohaa.Core

namespace Go.Proofs.Ytffahmnodgnohaa.Core
open Go
variable {P:Program}
theorem FZ {H H':HP} {φ φ':BF} {w w':World} {o:Oper} {ao:Cj} {n d:Nat} {s s1:St} {act:Act} {a:AV} {v:Value} {next:Act->World->Prop} {Q:Exit->Act->World->Prop} {ρ:Type} {kn:St->Option ρ} {r:ρ}
  (hst:AP H φ s.st w H' φ' s1.st w') (hf:Ca H' φ' s1.st s1.fr act.tmps) (hn:act.tmps.size=n) (hd:o.dst=some d) (hdn:d<n) (hk:kn (s1.put d a)=some r)
  (hrun:(execOp act.eval o).run P w=.ok (.value v) w') (hv:VA H' φ' s1.st a v)
  (hnext:∀ s' v w' H' φ',kn s'=some r->AP H φ s.st w H' φ' s'.st w'->Ca H' φ' s'.st s'.fr (act.put o.dst v).tmps->WG P o ao s act φ w w' v->next (act.put o.dst v) w')
  (hmem:SD (ao.touch s) φ s.st w w') (hnv:ao.isVal=false):o.wp P act w next Q :=
 MP hrun (hnext (s1.put d a) v w' H' φ' hk hst (by rw [Ip hd]; exact hf.put (by omega) hv) ⟨hmem,fun h=>by rw [hnv] at h; cases h⟩)
theorem Qc (st:List AH) (cs:List AV):AS (st++[.var cs]) st.length=true:=by simp [AS]
def UO (n:Nat) (o:Oper) (d:Nat):Bool :=
 FS o n d&&(match o.op with | .move y=>Bw y (.c .nil) | .assign y=>Bw y (.c .nil) | _=>false)
theorem Wx {n:Nat} {o:Oper} {d:Nat} {t:TypeId} {K:Kd} {cal:Cz} (h:UO n o d=true):ET P n o (.nilrow d t K) cal:=by
 intro ρ kn r s act w H φ next Q hs hf hn hk hnext
 simp only [UO,AD] at h
 obtain ⟨h1,h2⟩:=h
 obtain ⟨hd,hdn⟩:=BC h1
 have key:∀ y:Operand,(execOp act.eval o)=pure (.value (act.eval y))->Bw y (.c .nil)=true->o.wp P act w next Q:=by
  intro y hy hb
  have hv:act.eval y=.slice none 0 0:=An (s:=s) hf hb
  have hst:AP H φ s.st w H (fun i=>if i=s.st.length then .slice none 0 0 else φ i) (s.st++[.rows t K []]) w :=
   AP.push hs ⟨rfl,rfl,rfl,Nat.le_refl _,fun _ _ _=>rfl⟩ (Aj.of_flat (flat:=[]) ⟨by simp,.inl ⟨rfl,rfl⟩⟩ fun j x hx=>by simp at hx) (fun _ b hb=>by simp [BQ] at hb) (fun cs e=>by cases e)
  refine FZ (s:=s) (s1:=⟨s.fr,s.st++[.rows t K []]⟩) (a:=.row s.st.length) hst (hf.mono (HP.le_refl H) (CO φ s.st _ _)) hn hd hdn hk (by rw [hy,hv]; rfl) ?_ hnext (SD.refl _ _ _ _) rfl
  exact ⟨by simp [hdr],by simp [AE]⟩
 split at h2
 ·rename_i y ho; exact key y (by simp [execOp,ho]) h2
 ·rename_i y ho; exact key y (by simp [execOp,ho]) h2
 ·cases h2
def NI:List Value->List AV->Bool
 | [],[]=>true
 | v::vs,a::aw=>Qb v a&&NI vs aw
 | _,_=>false
theorem SU {H:HP}:∀ {vs:List Value} {aw:List AV},NI vs aw=true->Ed H aw vs
 | [],[],_=>rfl
 | v::vs,a::aw,h=>by
  simp only [NI,AD] at h
  exact ⟨v,vs,rfl,NH h.1,SU h.2⟩
 | [],_::_,h=>by simp [NI] at h
 | _::_,[],h=>by simp [NI] at h
def XX (P:Program) (t:TypeId) (cs:List AV):Bool :=
 match (P.info? t).bind (·.zero) with
 | some z=>NI z.cells.toList cs
 | none=>false
def aT (T:TypeId):Value->AV->Bool
 | .pointer none,.self t=>t==T
 | .slice none 0 0,.new _ _ xs=>xs.isEmpty
 | v,a=>Qb v a
theorem ZX {T:TypeId} {H:HP} {v:Value} {a:AV} (h:aT T v a=true):ZC T H a v:=by
 unfold aT at h
 split at h
 ·rename_i t
  exact .inr (.inr ⟨by rw [eq_of_beq h],rfl⟩)
 ·rename_i t K xs
  left
  refine ⟨t,K,?_,rfl⟩
  have:xs=[]:=by simpa using h
  rw [this]
 ·exact .inr (.inl (NH h))
def Wy (T:TypeId):List Value->List AV->Bool
 | [],[]=>true
 | v::vs,a::aw=>aT T v a&&Wy T vs aw
 | _,_=>false
theorem WH {T:TypeId} {H:HP}:∀ {vs:List Value} {aw:List AV},Wy T vs aw=true->AX (ZC T H) aw vs
 | [],[],_=>rfl
 | v::vs,a::aw,h=>by
  simp only [Wy,AD] at h
  exact ⟨v,vs,rfl,ZX h.1,WH h.2⟩
 | [],_::_,h=>by simp [Wy] at h
 | _::_,[],h=>by simp [Wy] at h
def WI (P:Program) (t:TypeId) (cs:List AV):Bool :=
 match (P.info? t).bind (·.zero) with
 | some z=>Wy t z.cells.toList cs
 | none=>false
theorem PY {t:TypeId} {cs:List AV} (h:WI P t cs=true):∃ i z,P.info? t=some i/\i.zero=some z/\∀ H,AX (ZC t H) cs z.cells.toList:=by
 unfold WI at h
 cases hi:P.info? t with
 | none=>rw [hi] at h; cases h
 | some i =>
  rw [hi] at h
  simp only [Z] at h
  cases hz:i.zero with
  | none=>rw [hz] at h; cases h
  | some z=>rw [hz] at h; exact ⟨i,z,rfl,hz,fun H=>WH h⟩
theorem XY {t:TypeId} {cs:List AV} (h:XX P t cs=true):∃ i z,P.info? t=some i/\i.zero=some z/\∀ H,Ed H cs z.cells.toList:=by
 unfold XX at h
 cases hi:P.info? t with
 | none=>rw [hi] at h; cases h
 | some i =>
  rw [hi] at h
  simp only [Z] at h
  cases hz:i.zero with
  | none=>rw [hz] at h; cases h
  | some z=>rw [hz] at h; exact ⟨i,z,rfl,hz,fun H=>SU h⟩
def SV (P:Program) (n:Nat) (o:Oper) (d:Nat) (cs:List AV):Bool :=
 FS o n d&&(match o.op with | .alloc t=>WI P t cs | _=>false)
theorem XZ {n:Nat} {o:Oper} {d:Nat} {cs:List AV} {cal:Cz} (h:SV P n o d cs=true):ET P n o (.alloc d cs) cal:=by
 intro ρ kn r s act w H φ next Q hs hf hn hk hnext
 simp only [SV,AD] at h
 obtain ⟨h1,h2⟩:=h
 obtain ⟨hd,hdn⟩:=BC h1
 split at h2
 ·rename_i t ho
  obtain ⟨i,z,hi,hz,hv⟩:=PY h2
  obtain ⟨φ1,g1,k1,told,len⟩:=Kn (hv H) hs
  obtain ⟨hrun,hst⟩:=RM (P:=P) (t:=t) g1.sr told
  rw [len] at hst
  simp only [CN] at hk
  refine FZ (s:=s) (s1:=⟨s.fr,s.st++Ae cs++[.var (Aq s.st.length cs)]⟩) (a:=.ptr (s.st.length+AG cs) 0) (v:=.pointer (some ⟨w.heap.size,0,none⟩)) (g1.trans hst)
   ((hf.mono (HP.le_refl H) k1).mono (HP.le_refl H) (by have:=CO φ1 (s.st++Ae cs) (.pointer (some ⟨w.heap.size,0,none⟩)) (.var (Aq s.st.length cs)); rwa [len] at this)) hn hd hdn hk ?_ ?_ hnext (SD.grown hs (World.grownBy_alloc w _ none)) rfl
  ·simp [execOp,ho,Instr.alloc,zeroValue,typeInfo,hi,hz,hrun]
  ·refine ⟨?_,w.heap.size,by simp [hdr],rfl⟩
   rw [<- len]; exact Qc _ _
 ·cases h2
def ZY (n:Nat) (o:Oper) (d:Nat) (x:BS):Bool :=
 FS o n d&&(match o.op with | .box _ y=>Bw y x | _=>false)
theorem Vp {H:HP} {φ:BF} {w:World} {s s':St} {own:Bool} {a:AV} {aw:List AV} {v:Value} (hs:SR H φ s.st w) (hv:VA H φ s.st a v) (h:s.stash own a.cells=some (aw,s')) :
  ∃ H',AP H φ s.st w H' φ s'.st w/\A_ φ s.st φ s'.st none/\AX (MK H' φ s'.st) aw v.cells.toList/\s'.fr=s.fr:=by
 unfold St.stash at h
 split at h
 ·split at h
  ·rename_i hg
   cases h
   refine ⟨H,AP.refl hs,A_.refl _ _ _,?_,rfl⟩
   have told:∀ b∈a.cells,∀ u,VC H φ s.st b u->MK H φ s.st b u:=fun b hb u hu=>by
    have:=Ax.1 hg b hb
    cases b with
    | row i=>exact ⟨fun _ _=>trivial,fun j e=>by cases e; exact ⟨hu.2,hu.1⟩⟩
    | _=>exact MK.of_VF (hu.solid this)
   rcases hv.cases with ⟨cs,arr,rfl,rfl,hc⟩ | ⟨vs,arr,rfl,_,_⟩ | hc
   ·exact hc.impM told
   ·simp [AV.cells,AV.good,AV.solid] at hg
   ·have hcell:a.cells=[a]:=by cases a<;>first | rfl | exact hc.elim
    rw [hcell] at hg told ⊢
    have hga:a.good=true:=by simpa using hg
    rw [(SS hs hga hc).2]
    exact ⟨v,[],rfl,told a (by simp) v hc,rfl⟩
  ·cases h
 ·obtain ⟨H1,g1,k1,f1,e1,_⟩:=F5 hs hv h
  exact ⟨H1,g1,k1,(EX.1 f1).imp fun _ _ h=>MK.of_VF h,e1⟩
theorem ZZ {n:Nat} {o:Oper} {d:Nat} {x:BS} {own:Bool} {cal:Cz} (h:ZY n o d x=true):ET P n o (.box d x own) cal:=by
 intro ρ kn r s act w H φ next Q hs hf hn hk hnext
 simp only [ZY,AD] at h
 obtain ⟨h1,h2⟩:=h
 obtain ⟨hd,hdn⟩:=BC h1
 split at h2
 ·rename_i t y ho
  simp only [CN] at hk
  cases hq:s.stash own (s.opd x).cells with
  | none=>rw [hq] at hk; cases hk
  | some z =>
   obtain ⟨aw,s1⟩:=z
   rw [hq] at hk
   simp only [Z] at hk
   obtain ⟨H1,g1,k1,f1,e1⟩:=Vp hs (An hf h2) hq
   obtain ⟨hrun,hst⟩:=RM (P:=P) (t:=t) g1.sr (f1.imp fun _ _ h=>h.toT)
   refine FZ (s:=s) (s1:=⟨s1.fr,s1.st++[.var aw]⟩) (a:=.ptr s1.st.length 0) (v:=.pointer (some ⟨w.heap.size,0,none⟩)) (g1.trans hst)
    ?_ hn hd hdn hk ?_ ?_ hnext (SD.grown hs (World.grownBy_alloc w _ none)) rfl
   ·rw [e1]; exact (hf.mono g1.le k1).mono (HP.le_refl _) (CO φ s1.st _ _)
   ·simp [execOp,ho,Instr.box,hrun]
   ·exact ⟨Qc _ _,w.heap.size,by simp [hdr],rfl⟩
 ·cases h2
def SW (P:Program) (n:Nat) (o:Oper) (d:Nat) (x:BS) (m:Option Nat):Bool :=
 FS o n d&&(match o.op with | .load t y=>Bw y x&&(match m with | some k=>Vh P t k&&MJ P t true | none=>MJ P t false) | _=>false)
theorem VA.behind {H:HP} {φ:BF} {s:St} {a:AV} {v:Value} {y:List AV×Nat} (h:VA H φ s.st a v) (hb:s.behind a=some y):VC H φ s.st a v:=by
 rcases h.cases with ⟨cs,arr,rfl,_⟩ | ⟨vs,arr,rfl,_⟩ | h
 ·cases hb
 ·cases hb
 ·exact h
theorem YZ {n:Nat} {o:Oper} {d:Nat} {x:BS} {m:Option Nat} {cal:Cz} (h:SW P n o d x m=true):ET P n o (.load d x m) cal:=by
 intro ρ kn r s act w H φ next Q hs hf hn hk hnext
 simp only [SW,AD] at h
 obtain ⟨h1,h2⟩:=h
 obtain ⟨hd,hdn⟩:=BC h1
 split at h2
 ·rename_i t y ho
  simp only [AD] at h2
  obtain ⟨h2,h3⟩:=h2
  simp only [CN] at hk
  cases hq:s.behind (s.opd x) with
  | none=>rw [hq] at hk; cases hk
  | some z =>
   rw [hq] at hk
   simp only [Z] at hk
   split at hk
   ·rename_i hle
    obtain ⟨u,hrun,hu⟩:=UJ (P:=P) (t:=t) hs ((An hf h2).behind hq) (cs:=z.1) (off:=z.2) hq (n:=m) hle (by cases m<;>exact h3)
    refine plain_ok hs hf hn hd hdn hk (fun w2 hr=>?_) hu hnext
    simp only [CJ,ho] at hr
    simp [execOp,ho,hrun w2 hr]
   ·cases hk
 ·cases h2
def Vq (P:Program) (o:Oper) (x y:BS) (m:Nat):Bool :=
 match o.op with | .store t x' y'=>Bw x' x&&Bw y' y&&Vh P t m&&o.dst.isNone | _=>false
theorem VA.storeAt {H:HP} {φ:BF} {s s' s1:St} {own:Bool} {a:AV} {v:Value} {aw:List AV} (h:VA H φ s.st a v) (hb:s'.storeAt own a aw=some s1):VC H φ s.st a v:=by
 rcases h.cases with ⟨cs,arr,rfl,_⟩ | ⟨vs,arr,rfl,_⟩ | h
 ·cases hb
 ·cases hb
 ·exact h
theorem PZ:∀ {aw:List AV} {s:St} {x:List AV×St},s.keepAll aw=some x->∀ a∈aw,a.good=true
 | [],_,_,_,a,ha=>by cases ha
 | b::aw,s,x,h,a,ha=>by
  simp only [St.keepAll] at h
  cases hk:s.keep b with
  | none=>rw [hk] at h; cases h
  | some y =>
   rw [hk] at h
   simp only [Z] at h
   cases hq:y.2.keepAll aw with
   | none=>rw [hq] at h; cases h
   | some z =>
    rcases AQ.1 ha with rfl | ha
    ·exact QY hk
    ·exact PZ hq a ha
theorem Iq:∀ {ks:List Kd} {vs:List AV} {s:St} {x:List AV×St×List Nat},s.takeC ks vs=some x->∀ v∈vs,v.good=true
 | [],[],s,x,h,v,hv=>by cases hv
 | [],_::_,s,x,h,v,hv=>by simp [St.takeC] at h
 | _::_,[],s,x,h,v,hv=>by cases hv
 | k::ks,u::vs,s,x,h,v,hv=>by
  have plain:(s.keep u).bind (fun x=>(x.2.takeC ks vs).bind fun y=>some (x.1::y.1,y.2))=some x->v.good=true:=fun h=>by
   cases hk:s.keep u with
   | none=>rw [hk] at h; cases h
   | some y =>
    rw [hk] at h
    simp only [Z] at h
    cases hq:y.2.takeC ks vs with
    | none=>rw [hq] at h; cases h
    | some z =>
     rcases AQ.1 hv with rfl | hv
     ·exact QY hk
     ·exact Iq hq v hv
  cases k with
  | own t e =>
   cases u with
   | row j =>
    simp only [St.takeC] at h
    split at h
    ·split at h
     ·cases hq:s.takeC ks vs with
      | none=>rw [hq] at h; cases h
      | some z =>
       rcases AQ.1 hv with rfl | hv
       ·rfl
       ·exact Iq hq v hv
     ·cases h
    ·cases h
   | nil =>
    simp only [St.takeC] at h
    cases hq:s.takeC ks vs with
    | none=>rw [hq] at h; cases h
    | some z =>
     rcases AQ.1 hv with rfl | hv
     ·rfl
     ·exact Iq hq v hv
   | _=>simp [St.takeC] at h
  | _=>simp only [St.takeC] at h; exact plain h
theorem UP {s s':St} {own:Bool} {p:AV} {vs:List AV} (h:s.storeAt own p vs=some s'):∀ v∈vs,v.good=true:=by
 unfold St.storeAt at h
 split at h
 ·split at h
  ·split at h
   ·rename_i cs _ _
    cases hq:s.intoAll own ((cs.drop _).take vs.length) vs with
    | none=>rw [hq] at h; cases h
    | some y=>exact (LV hq).2.2
   ·cases h
  ·cases h
 ·split at h
  ·unfold St.storeN at h
   rename_i id i off _ K _
   cases hq:s.takeC ((K.leaves.drop off).take vs.length) vs with
   | none=>rw [hq] at h; cases h
   | some z=>exact Iq hq
  ·cases hq:s.keepAll vs with
   | none=>rw [hq] at h; cases h
   | some z=>exact PZ hq
 ·cases h
theorem VA.goodCells {H:HP} {φ:BF} {st:List AH} {w:World} {a:AV} {v:Value} (hs:SR H φ st w) (h:VA H φ st a v) (hg:∀ b∈a.cells,b.good=true):AX (VC H φ st) a.cells v.cells.toList:=by
 rcases h.cases with ⟨cs,arr,rfl,rfl,hc⟩ | ⟨vs,arr,rfl,_,_⟩ | hc
 ·exact hc
 ·have:=hg (.tup vs) (by simp [AV.cells]); simp [AV.good,AV.solid] at this
 ·have hcell:a.cells=[a]:=by cases a<;>first | rfl | exact hc.elim
  rw [hcell] at hg ⊢
  rw [(SS hs (hg a (by simp)) hc).2]
  exact ⟨v,[],rfl,hc,rfl⟩
theorem Xa {n:Nat} {o:Oper} {x y:BS} {m:Nat} {own:Bool} {cal:Cz} (h:Vq P o x y m=true):ET P n o (.store x y m own) cal:=by
 intro ρ kn r s act w H φ next Q hs hf hn hk hnext
 unfold Vq at h
 split at h
 ·rename_i t x' y' ho
  simp only [AD,Option.isNone_iff_eq_none] at h
  obtain ⟨⟨⟨hx,hy⟩,hsz⟩,hd⟩:=h
  simp only [CN] at hk
  split at hk
  ·rename_i hm
   obtain ⟨hh,hk⟩:(∀ q,s.holeI (s.opd x)=some q->q.1=q.2)/\(s.storeAt own (s.opd x) (s.opd y).cells).bind kn=some r:=by
    split at hk
    ·rename_i q e
     split at hk
     ·rename_i e2
      exact ⟨fun q' h'=>(by rw [e] at h'; cases h'; exact e2),hk⟩
     ·cases hk
    ·rename_i e
     exact ⟨fun q' h'=>(by rw [e] at h'; cases h'),hk⟩
   cases hz:s.storeAt own (s.opd x) (s.opd y).cells with
   | none=>rw [hz] at hk; cases hk
   | some s2 =>
    rw [hz] at hk
    simp only [Z] at hk
    have hp:=(An hf hx).storeAt hz
    obtain ⟨H1,φ',w',hrun,hst,hf2,hmem⟩:=UL (P:=P) (t:=t) hs hf hp ((An hf hy).goodCells hs (UP hz)) hz (by rw [hm]; exact hsz) hh
    unfold Oper.wp
    simp only [execOp,ho,Sem.run_bind,hrun,Result.andThen_ok,Sem.run_pure,Oper.upon_skip]
    refine hnext s2 undef w' H1 φ' hk hst ?_ ⟨?_,fun h=>by cases h⟩
    ·rw [hd]
     exact hf2
    ·intro i bx hi hl hn b hb
     refine hmem i bx hi hl (fun id hid=>?_) b hb
     intro e
     subst e
     apply hn
     simp only [Cj.touch]
     rcases hid with ⟨off,e⟩ | ⟨j,off,e⟩<;>rw [e]<;>simp
  ·cases hk
 ·cases h
def WJ (n:Nat) (o:Oper) (d:Nat) (x:BS):Bool :=
 FS o n d&&(match o.op with | .nilCheck y=>Bw y x | _=>false)
theorem Ya {n:Nat} {o:Oper} {d:Nat} {x:BS} {cal:Cz} (h:WJ n o d x=true):ET P n o (.nilc d x) cal:=by
 intro ρ kn r s act w H φ next Q hs hf hn hk hnext
 simp only [WJ,AD] at h
 obtain ⟨h1,h2⟩:=h
 obtain ⟨hd,hdn⟩:=BC h1
 split at h2
 ·rename_i y ho
  have hv:=An hf h2
  simp only [CN] at hk
  have key:∀ a,s.opd x=a->kn (s.put d a)=some r->(∃ p,act.eval y=.pointer (some p))->o.wp P act w next Q:=by
   rintro a e hk' ⟨p,hp⟩
   rw [e] at hv
   exact plain_ok hs hf hn hd hdn hk' (v:=act.eval y) (fun _ _=>by simp [execOp,ho,hp]) hv hnext
  cases hx:s.opd x with
  | ptr id off =>
   rw [hx] at hk hv
   obtain ⟨_,b,_,e⟩:=hv
   exact key _ hx hk ⟨_,e⟩
  | eptr id i off =>
   rw [hx] at hk hv
   obtain ⟨b,_,_,_,_,_,_,e⟩:=hv
   exact key _ hx hk ⟨_,e⟩
  | fptr cs off =>
   rw [hx] at hk hv
   obtain ⟨b,_,_,_,_,e,_⟩:=hv
   exact key _ hx hk ⟨_,e⟩
  | _=>rw [hx] at hk; cases hk
 ·cases h2
def WK (P:Program) (t:TypeId) (f off:Nat):Option TypeId :=
 match P.underlying t with
 | some (.struct fs)=>match fs[f]? with
  | some fd=>if fd.offset=off then some fd.type else none
  | none=>none
 | _=>none
theorem U4 {t:TypeId} {f off:Nat} {ft:TypeId} (h:WK P t f off=some ft):∃ fs fd,P.underlying t=some (.struct fs)/\fs[f]? = some fd/\fd.offset=off/\fd.type=ft:=by
 unfold WK at h
 split at h
 ·rename_i fs hu
  split at h
  ·rename_i fd hf
   split at h
   ·rename_i he
    simp only [Af] at h
    exact ⟨fs,fd,hu,hf,he,h⟩
   ·cases h
  ·cases h
 ·cases h
theorem Addr.add_none (b o k:Nat):(⟨b,o,none⟩:Addr).add k=⟨b,o+k,none⟩:=by unfold Addr.add; split<;>simp_all
def Yb (P:Program) (n:Nat) (o:Oper) (d:Nat) (x:BS) (off:Nat):Bool :=
 FS o n d&&(match o.op with
  | .fieldAddr t y f=>Bw y x&&(match WK P t f off with | some ft=>(match P.info? ft with | some i=>decide (i.size≠0) | none=>false) | none=>false)
  | _=>false)
theorem Za {n:Nat} {o:Oper} {d:Nat} {x:BS} {off:Nat} {cal:Cz} (h:Yb P n o d x off=true):ET P n o (.fld d x off) cal:=by
 intro ρ kn r s act w H φ next Q hs hf hn hk hnext
 simp only [Yb,AD] at h
 obtain ⟨h1,h2⟩:=h
 obtain ⟨hd,hdn⟩:=BC h1
 split at h2
 ·rename_i t y f ho
  simp only [AD] at h2
  obtain ⟨h2,h3⟩:=h2
  split at h3
  ·rename_i ft hft
   obtain ⟨fs,fd,hu,hfd,he,hty⟩:=U4 hft
   split at h3
   ·rename_i i hi
    simp only [ne_eq,decide_not,DH,decide_eq_false_iff_not] at h3
    have hv:=An hf h2
    have hrun:∀ b o0,act.eval y=.pointer (some ⟨b,o0,none⟩)->∀ w2,CJ o act w w2->(execOp act.eval o).run P w2=.ok (.value (.pointer (some ⟨b,o0+off,none⟩))) w2:=by
     intro b o0 hp w _
     simp [execOp,ho,Instr.fieldAt,run_underlying hu,hfd,hp,Instr.sureAddr,fieldPlace,sizeOf,typeInfo,hty,hi,h3,he,Addr.add_none]
    simp only [CN] at hk
    cases hx:s.opd x with
    | ptr id o0 =>
     rw [hx] at hk hv
     obtain ⟨hva,b,e1,e2⟩:=hv
     exact plain_ok hs hf hn hd hdn hk (hrun _ _ e2) ⟨hva,b,e1,rfl⟩ hnext
    | eptr id i o0 =>
     rw [hx] at hk hv
     obtain ⟨b,m,cap,K,e1,e2,e3,e4⟩:=hv
     exact plain_ok hs hf hn hd hdn hk (hrun _ _ e4) ⟨b,m,cap,K,e1,e2,e3,by rw [Nat.add_assoc]⟩ hnext
    | fptr cs o0 =>
     rw [hx] at hk hv
     obtain ⟨b,q,c,el,fz,e1,e2⟩:=hv
     exact plain_ok hs hf hn hd hdn hk (hrun _ _ e1) ⟨b,q,c,el,fz,by rw [Nat.add_assoc],e2⟩ hnext
    | _=>rw [hx] at hk; cases hk
   ·cases h3
  ·cases h3
 ·cases h2
end Go.Proofs.Ytffahmnodgnohaa.Core
