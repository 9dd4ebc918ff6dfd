/- Texts of the proof, packed: part 6. -/
import Derived.Test.YtfcgblnlopemkaaGreatDoorP4
import Derived.JoinedOf
import Derived.Test.YtfcgblnlopemkaaGreatDoorRows
import Derived.ProofKit
set_option linter.unusedVariables false
set_option linter.unusedSimpArgs false
namespace Go.Proofs.YtfcgblnlopemkaaGreatDoor.Core
open Go
theorem isB {u:UInt8} (n:Nat) (hn:n<256) {m:Int} (hm:m=(n:Int)):((u.toNat:Int)==m)=decide (u=UInt8.ofNat n):=by
 subst hm
 rw [Bool.eq_iff_iff,beq_iff_eq,decide_eq_true_eq]
 exact AAa hn
theorem ADH {u:UInt8}:((u.toNat:Int)==10)=decide (u=10):=isB 10 (by omega) rfl
theorem ADI {u:UInt8}:((u.toNat:Int)==32)=decide (u=32):=isB 32 (by omega) rfl
theorem ADJ {u:UInt8}:((u.toNat:Int)==44)=decide (u=44):=isB 44 (by omega) rfl
theorem ADK {u:UInt8}:((u.toNat:Int)==35)=decide (u=35):=isB 35 (by omega) rfl
theorem EJ (x:ByteArray):x.data.toList.length=x.size:=by simp
def jx:List (List UInt8)->List (List UInt8)
 | []=>[]
 | [p]=>if p=[] then [] else [p]
 | p::q::t=>p::jx (q::t)
theorem re (p:List UInt8) {q:List (List UInt8)} (h:q≠[]):jx (p::q)=p::jx q:=by
 cases q with
 | nil=>exact absurd rfl h
 | cons a t=>rfl
def Ot (x:ByteArray):List ByteArray:=(jx (cut 10 x.data.toList)).map E3
theorem gC {x:ByteArray} (hx:x.size<=1048576):∀ (k i a:Nat) (acc:List ByteArray),i+k=x.size->a<=i->acc.length<=i->Fn x (a:Int) (i:Int) acc=some (acc++(jx (P6 (ur x.data.toList a i) (cut 10 (x.data.toList.drop i)))).map E3)
 | 0,i,a,acc,hk,ha,hl=>by
  have hs:=EJ x
  have hi:i=x.size:=by omega
  refine SX ?_
  unfold LG
  rw [if_neg (by rw [decide_eq_false (by omega)]; simp),List.drop_eq_nil_of_le (by omega),show cut 10 []=[[]] from rfl]
  refine fE ?_
  unfold SW
  simp only [P6,List.append_nil]
  by_cases h:a<x.size
  ·rw [if_pos (decide_eq_true (by omega)),if_pos (by omega),if_pos (by omega),if_pos (by omega),if_pos (by simp; omega),P7,Ad,Ad,jx,if_neg (by rw [ci ha (by omega)]; omega),<- hi]
   rfl
  ·rw [if_neg (by rw [decide_eq_false (by omega)]; simp),jx,if_pos ((ci ha (by omega)).2 (by omega))]
   simp
 | k+1,i,a,acc,hk,ha,hl=>by
  have hs:=EJ x
  have hi:i<x.data.toList.length:=by omega
  refine SX ?_
  unfold LG
  rw [if_pos (decide_eq_true (by omega)),if_pos (by omega),if_pos (by omega),Ad,X5 hi,ADH,Am hi]
  by_cases hb:x.data.toList[i]=10
  ·rw [if_pos (decide_eq_true hb),if_pos (by omega),if_pos (by omega),if_pos (by omega),if_pos (by simp; omega),AQ (by omega),P7,Ad,rc _ _ hb,re _ (xq _ _),
    gC hx k (i+1) (i+1) _ (by omega) (by omega) (by simp; omega),XT]
   simp
  ·rw [if_neg (by rw [decide_eq_false hb]; simp),AQ (by omega),gC hx k (i+1) a acc (by omega) (by omega) (by omega),rd ha hi,uj _ _ hb]
theorem Sz (x:ByteArray) (hx:x.size<=1048576):Kk x=some (Ot x):=nz (by
 unfold Yr
 have:=gC hx x.size 0 0 [] (by omega) (by omega) (by simp)
 refine Eq.trans this ?_
 rw [XT,List.drop_zero,jw (mg _ _)]
 rfl)
theorem gD:∀ {p:List (List UInt8)},p≠[]->jx p=if p.getLast? = some [] then p.dropLast else p
 | [],h=>absurd rfl h
 | [p],_=>by
  unfold jx
  by_cases h:p=[]
  ·rw [if_pos h,h]; rfl
  ·rw [if_neg h,if_neg (by simpa using h)]
 | p::q::t,_=>by
  rw [re p (by simp),gD (p:=q::t) (by simp),List.getLast?_cons_cons]
  split
  ·rfl
  ·rfl
theorem jy (c:UInt8):∀ l,1<=(cut c l).length/\(cut c l).length<=l.length+1
 | []=>by simp [cut]
 | b::l=>by
  have ih:=jy c l
  unfold cut
  split
  ·simp only [List.length_cons]; omega
  ·have:(P6 [b] (cut c l)).length=(cut c l).length:=by
    cases h:cut c l with
    | nil=>exact absurd h (mg c l)
    | cons a t=>rfl
   rw [this]
   simp only [List.length_cons]
   omega
def wI (u:UInt8):Bool:=decide (32<=u.toNat)&&decide (u.toNat<=126)
def uk (z:List ByteArray):List ByteArray×Bool:=if 10<z.length then ([],false) else (z,true)
def cH (p:List (List UInt8)):List ByteArray:=(p.filter fun q=>!q.isEmpty).map E3
def Qb (x:ByteArray):List ByteArray×Bool :=
 if 600<x.size then ([],false) else if x.data.toList.all wI=true then uk (cH (cut 32 x.data.toList)) else ([],false)
theorem gE (p:List UInt8) (q:List (List UInt8)):cH (p::q)=(if p=[] then [] else [E3 p])++cH q:=by
 unfold cH
 cases p with
 | nil=>rfl
 | cons a t=>rfl
theorem yx {x:ByteArray} (hx:x.size<=1048576) (b:Int) (acc:List ByteArray):C7 x b ((x.size+1:Nat):Int) acc=some (uk acc):=by
 refine M7 ?_
 unfold Ir
 rw [if_neg (by rw [decide_eq_false (by omega)]; simp)]
 refine iX ?_
 unfold UT uk
 by_cases h:10<acc.length
 ·rw [if_pos (decide_eq_true (by omega)),if_pos h]
 ·rw [if_neg (by rw [decide_eq_false (by omega)]; simp),if_neg h]
theorem tK {x:ByteArray} (hx:x.size<=1048576) {a i:Nat} {b:Bool} {acc:List ByteArray} (ha:a<=i) (hi:i<=x.size) (hl:acc.length<=i) {r:List ByteArray×Bool}
  (h:C7 x ((i+1:Nat):Int) ((i+1:Nat):Int) (acc++(if ur x.data.toList a i=[] then [] else [E3 (ur x.data.toList a i)]))=some r):Ip x (a:Int) (i:Int) b acc=some r:=by
 have hs:=EJ x
 refine iW ?_
 unfold US
 by_cases hai:a<i
 ·rw [if_neg (by rw [ci ha (by omega)]; omega)] at h
  rw [if_pos (decide_eq_true (by omega)),if_pos (by omega),if_pos (by omega),if_pos (by omega),if_pos (by simp; omega),AQ (by omega),P7,Ad,Ad]
  exact h
 ·rw [if_pos ((ci ha (by omega)).2 (by omega)),List.append_nil] at h
  rw [if_neg (by rw [decide_eq_false (by omega)]; simp),AQ (by omega)]
  exact h
theorem gF {x:ByteArray} (hx:x.size<=1048576):∀ (k i a:Nat) (acc:List ByteArray),i+k=x.size->a<=i->acc.length<=i ->
  C7 x (a:Int) (i:Int) acc=some (if (x.data.toList.drop i).all wI=true then uk (acc++cH (P6 (ur x.data.toList a i) (cut 32 (x.data.toList.drop i)))) else ([],false))
 | 0,i,a,acc,hk,ha,hl=>by
  have hs:=EJ x
  have hi:i=x.size:=by omega
  refine M7 ?_
  unfold Ir
  rw [if_pos (decide_eq_true (by omega)),if_neg (by rw [decide_eq_false (by omega)]; simp),List.drop_eq_nil_of_le (by omega),if_pos (by simp),show cut 32 []=[[]] from rfl]
  refine UU ?_
  unfold M6
  rw [if_neg (by rw [decide_eq_false (by omega)]; simp)]
  refine tK hx ha (by omega) hl ?_
  rw [hi,yx hx]
  simp only [P6,List.append_nil]
  rw [gE]
  simp [cH]
 | k+1,i,a,acc,hk,ha,hl=>by
  have hs:=EJ x
  have hi:i<x.data.toList.length:=by omega
  have J1:∀ b,Iq x (a:Int) (i:Int) b acc=some (if (x.data.toList.drop (i+1)).all wI=true then uk (acc++cH (P6 (ur x.data.toList a i) (cut 32 (x.data.toList.drop i)))) else ([],false)):=fun b=>by
   refine UU ?_
   unfold M6
   rw [if_pos (decide_eq_true (by omega)),if_pos (by omega),if_pos (by omega),Ad,X5 hi,bne,ADI,Am hi]
   by_cases hb:x.data.toList[i]=32
   ·rw [if_neg (by rw [decide_eq_true hb]; simp)]
    refine tK hx ha (by omega) hl ?_
    rw [gF hx k (i+1) (i+1) _ (by omega) (by omega) (by split<;>simp<;>omega),XT,rc _ _ hb,gE,Be]
   ·rw [if_pos (by rw [decide_eq_false hb]; simp),AQ (by omega),gF hx k (i+1) a acc (by omega) (by omega) (by omega),rd ha hi,uj _ _ hb]
  refine M7 ?_
  unfold Ir
  rw [if_pos (decide_eq_true (by omega)),if_pos (decide_eq_true (by omega)),if_pos (by omega),if_pos (by omega),Ad,X5 hi,Am hi,List.all_cons]
  by_cases h1:(x.data.toList[i]).toNat<32
  ·rw [if_neg (by rw [decide_eq_true (by omega)]; simp),if_neg (by
    have:wI x.data.toList[i]=false:=by unfold wI; rw [decide_eq_false (by omega)]; rfl
    rw [this]; simp)]
  ·rw [if_pos (decide_eq_false (by omega)),if_pos (by omega),if_pos (by omega)]
   by_cases h2:126<(x.data.toList[i]).toNat
   ·rw [if_pos (decide_eq_true (by omega)),if_neg (by
     have:wI x.data.toList[i]=false:=by unfold wI; rw [decide_eq_false (p:=(x.data.toList[i]).toNat<=126) (by omega),Bool.and_false]
     rw [this]; simp)]
   ·have:wI x.data.toList[i]=true:=by unfold wI; rw [decide_eq_true (by omega),decide_eq_true (by omega)]; rfl
    rw [if_neg (by rw [decide_eq_false (by omega)]; simp),J1,this,Bool.true_and,<- Am hi]
theorem jz (x:ByteArray):R_ x=some (Qb x):=qj (by
 unfold az Qb
 by_cases h:600<x.size
 ·rw [if_pos (decide_eq_true (by omega)),if_pos h]
 ·rw [if_neg (by rw [decide_eq_false (by omega)]; simp),if_neg h]
  have:=gF (x:=x) (by omega) x.size 0 0 [] (by omega) (by omega) (by simp)
  refine Eq.trans this ?_
  rw [XT,List.drop_zero,jw (mg _ _),List.nil_append])
theorem mi (ps:List (List UInt8)) (hp:ps.length<=1048577):∀ (k i:Nat) (acc:List ByteArray),i+k=ps.length->acc.length<=i->Gi (ps.map E3) (ps.length:Int) (i:Int) acc=some (uk (acc++cH (ps.drop i)))
 | 0,i,acc,hk,hl=>by
  refine Uk ?_
  unfold NI
  rw [if_neg (by rw [decide_eq_false (by omega)]; simp),List.drop_eq_nil_of_le (by omega)]
  refine jA ?_
  unfold Ui uk
  rw [show cH []=[] from rfl,List.append_nil]
  by_cases h:10<acc.length
  ·rw [if_pos (decide_eq_true (by omega)),if_pos h]
  ·rw [if_neg (by rw [decide_eq_false (by omega)]; simp),if_neg h]
 | k+1,i,acc,hk,hl=>by
  have hi:i<ps.length:=by omega
  have hi2:i<(ps.map E3).length:=by simpa using hi
  refine Uk ?_
  unfold NI
  rw [if_pos (decide_eq_true (by omega)),if_pos (by omega),if_pos (by simp; omega),Ad,AT hi2,List.getElem_map,Sy,Am hi,gE,AQ (by omega)]
  by_cases hb:ps[i]=[]
  ·rw [if_neg (by rw [hb,show decide (E3 []=(⟨#[]⟩:ByteArray))=true from decide_eq_true rfl]; simp),if_pos hb,mi ps hp k (i+1) acc (by omega) (by omega)]
   rfl
  ·rw [if_pos (by rw [show decide (E3 ps[i]=(⟨#[]⟩:ByteArray))=false from decide_eq_false (fun e=>hb (xp (b:=[]) e))]; rfl),if_neg hb,if_pos (by simp; omega),mi ps hp k (i+1) _ (by omega) (by simp; omega),Be]
theorem rf {x:ByteArray} (hx:x.size<=1048576):∀ (k i:Nat),i+k=x.size->Iw x (i:Int)=some (if (x.data.toList.drop i).all wI=true then uk (cH (cut 32 x.data.toList)) else ([],false))
 | 0,i,hk=>by
  have hs:=EJ x
  have hc:=jy 32 x.data.toList
  refine Ul ?_
  unfold NJ
  rw [if_neg (by rw [decide_eq_false (by omega)]; simp),List.drop_eq_nil_of_le (by omega),if_pos (by simp)]
  refine jB ?_
  unfold Uj
  rw [KJ _ _ (by omega),Z]
  have:=mi (cut 32 x.data.toList) (by omega) (cut 32 x.data.toList).length 0 [] (by omega) (by simp)
  unfold cE
  rw [List.length_map]
  refine Eq.trans this ?_
  rfl
 | k+1,i,hk=>by
  have hs:=EJ x
  have hi:i<x.data.toList.length:=by omega
  refine Ul ?_
  unfold NJ
  rw [if_pos (decide_eq_true (by omega)),if_pos (by omega),if_pos (by omega),Ad,X5 hi,Am hi,List.all_cons]
  by_cases h1:(x.data.toList[i]).toNat<32
  ·rw [if_neg (by rw [decide_eq_true (by omega)]; simp),if_neg (by
    have:wI x.data.toList[i]=false:=by unfold wI; rw [decide_eq_false (by omega)]; rfl
    rw [this]; simp)]
  ·rw [if_pos (decide_eq_false (by omega)),if_pos (by omega),if_pos (by omega)]
   by_cases h2:126<(x.data.toList[i]).toNat
   ·rw [if_pos (decide_eq_true (by omega)),if_neg (by
     have:wI x.data.toList[i]=false:=by unfold wI; rw [decide_eq_false (p:=(x.data.toList[i]).toNat<=126) (by omega),Bool.and_false]
     rw [this]; simp)]
   ·have:wI x.data.toList[i]=true:=by unfold wI; rw [decide_eq_true (by omega),decide_eq_true (by omega)]; rfl
    rw [if_neg (by rw [decide_eq_false (by omega)]; simp),AQ (by omega),rf hx k (i+1) (by omega),this,Bool.true_and]
theorem j1 (x:ByteArray):SC x=some (Qb x):=qu (by
 unfold bP Qb
 by_cases h:600<x.size
 ·rw [if_pos (decide_eq_true (by omega)),if_pos h]
 ·rw [if_neg (by rw [decide_eq_false (by omega)]; simp),if_neg h]
  exact rf (x:=x) (by omega) x.size 0 (by omega))
def goL:List (List UInt8)->List Int->List Int×Bool
 | [],acc=>(acc,true)
 | p::t,acc=>if (de (E3 p)).2=true then goL t (acc++[(de (E3 p)).1]) else ([],false)
def CV (x:ByteArray):List Int×Bool:=goL (cut 44 x.data.toList) []
theorem rg {x:ByteArray} (hx:x.size<=1048576) {a i:Nat} {b:Bool} {acc:List Int} {t:List (List UInt8)} (ha:a<=i) (hi:i<=x.size) (hl:acc.length<=i)
  (h:∀ n,Dr x ((i+1:Nat):Int) ((i+1:Nat):Int) (acc++[n])=some (goL t (acc++[n]))):G3 x (a:Int) (i:Int) b acc=some (goL (ur x.data.toList a i::t) acc):=by
 refine dC ?_
 unfold Qv goL
 rw [if_pos (by omega),if_pos (by omega),if_pos (by omega),P7,Ad,Ad,F6,Z]
 cases hr:(de (E3 (ur x.data.toList a i))).2 with
 | true=>rw [if_neg (by simp),if_pos (by simp; omega),if_pos rfl,AQ (by omega),h]
 | false=>rw [if_pos (by simp),if_neg (by simp)]
theorem cI {x:ByteArray} (hx:x.size<=1048576):∀ (k i a:Nat) (acc:List Int),i+k=x.size->a<=i->acc.length<=i->Dr x (a:Int) (i:Int) acc=some (goL (P6 (ur x.data.toList a i) (cut 44 (x.data.toList.drop i))) acc)
 | 0,i,a,acc,hk,ha,hl=>by
  have hs:=EJ x
  have hi:i=x.size:=by omega
  refine J6 ?_
  unfold G4
  rw [if_pos (decide_eq_true (by omega)),if_neg (by rw [decide_eq_false (by omega)]; simp),List.drop_eq_nil_of_le (by omega),show cut 44 []=[[]] from rfl]
  simp only [P6,List.append_nil]
  refine rg hx ha (by omega) hl fun n=>?_
  refine J6 ?_
  unfold G4
  rw [if_neg (by rw [decide_eq_false (by omega)]; simp)]
  rfl
 | k+1,i,a,acc,hk,ha,hl=>by
  have hs:=EJ x
  have hi:i<x.data.toList.length:=by omega
  refine J6 ?_
  unfold G4
  rw [if_pos (decide_eq_true (by omega)),if_pos (decide_eq_true (by omega)),if_pos (by omega),if_pos (by omega),Ad,X5 hi,bne,ADJ,Am hi]
  by_cases hb:x.data.toList[i]=44
  ·rw [if_neg (by rw [decide_eq_true hb]; simp),rc _ _ hb]
   refine rg hx ha (by omega) hl fun n=>?_
   rw [cI hx k (i+1) (i+1) _ (by omega) (by omega) (by simp; omega),XT]
  ·rw [if_pos (by rw [decide_eq_false hb]; simp),AQ (by omega),cI hx k (i+1) a acc (by omega) (by omega) (by omega),rd ha hi,uj _ _ hb]
theorem df (x:ByteArray) (hx:x.size<=1048576):OS x=some (CV x):=lM (by
 unfold Wd CV
 have:=cI hx x.size 0 0 [] (by omega) (by omega) (by simp)
 refine Eq.trans this ?_
 rw [XT,List.drop_zero,jw (mg _ _)])
theorem tL (ps:List (List UInt8)) (hp:ps.length<=1048577):∀ (k i:Nat) (acc:List Int),i+k=ps.length->acc.length<=i->Jk (ps.map E3) (ps.length:Int) (i:Int) acc=some (goL (ps.drop i) acc)
 | 0,i,acc,hk,hl=>by
  refine Wn ?_
  unfold Ob
  rw [if_neg (by rw [decide_eq_false (by omega)]; simp),List.drop_eq_nil_of_le (by omega)]
  rfl
 | k+1,i,acc,hk,hl=>by
  have hi:i<ps.length:=by omega
  have hi2:i<(ps.map E3).length:=by simpa using hi
  refine Wn ?_
  unfold Ob
  rw [if_pos (decide_eq_true (by omega)),if_pos (by omega),if_pos (by simp; omega),Ad,AT hi2,List.getElem_map,F5,Z,Am hi,AQ (by omega)]
  unfold goL
  cases hr:(de (E3 ps[i])).2 with
  | true=>rw [if_neg (by simp),if_pos (by simp; omega),if_pos rfl,tL ps hp k (i+1) _ (by omega) (by simp; omega)]
  | false=>rw [if_pos (by simp),if_neg (by simp)]
theorem XU (x:ByteArray) (hx:x.size<=1048576):VQ x=some (CV x):=sS (by
 have hc:=jy 44 x.data.toList
 have hs:=EJ x
 unfold dv CV
 rw [KJ _ _ (by omega),Z]
 unfold cE
 rw [List.length_map]
 exact tL (cut 44 x.data.toList) (by omega) (cut 44 x.data.toList).length 0 [] (by omega) (by simp))

theorem isW (x:ByteArray) (l:List UInt8):(x.toList==(E3 l).toList)=decide (x.data.toList=l):=by
 rw [Sy,Bool.eq_iff_iff,decide_eq_true_eq,decide_eq_true_eq]
 exact ⟨fun h=>by rw [h]; rfl,fun h=>by rw [<- h,cD]⟩
theorem ADW (x:ByteArray) (l:List UInt8):((E3 l).toList==x.toList)=decide (l=x.data.toList):=by
 rw [Sy,Bool.eq_iff_iff,decide_eq_true_eq,decide_eq_true_eq]
 exact ⟨fun h=>by rw [<- h]; rfl,fun h=>by rw [h,cD]⟩
theorem ADL (p:ByteArray):(p.toList==(⟨#[112,117,116]⟩:ByteArray).toList)=decide (p.data.toList=[112,117,116]):=isW p _
theorem ACo (p:ByteArray):(p.toList==(⟨#[103,101,116]⟩:ByteArray).toList)=decide (p.data.toList=[103,101,116]):=isW p _
theorem ADX (p:ByteArray):(p.toList==(⟨#[100,101,108,105,118,101,114]⟩:ByteArray).toList)=decide (p.data.toList=[100,101,108,105,118,101,114]):=isW p _
theorem ADM (p:ByteArray):(p.toList==(⟨#[100,114,111,112]⟩:ByteArray).toList)=decide (p.data.toList=[100,114,111,112]):=isW p _
theorem ADN (p:ByteArray):(p.toList==(⟨#[99,111,112,121]⟩:ByteArray).toList)=decide (p.data.toList=[99,111,112,121]):=isW p _
theorem ACp (p:ByteArray):(p.toList==(⟨#[97,100,111,112,116]⟩:ByteArray).toList)=decide (p.data.toList=[97,100,111,112,116]):=isW p _
theorem ADO (p:ByteArray):(p.toList==(⟨#[102,97,108,108]⟩:ByteArray).toList)=decide (p.data.toList=[102,97,108,108]):=isW p _
theorem xu (p:ByteArray):(p.toList==(⟨#[118,105,101,119]⟩:ByteArray).toList)=decide (p.data.toList=[118,105,101,119]):=isW p _
def ZEv:BN:=((0:Int),(0:Int),(0:Int),(0:Int),O,O)
def JU:List (List UInt8):=[[100,101,108,105,118,101,114],[100,114,111,112],[99,111,112,121],[97,100,111,112,116],[102,97,108,108]]
def AAb (k n:Int):BN:=if k<=4 then (k,1,n,0,O,O) else (k,n,0,0,O,O)
def xC (l:List UInt8) (a:ByteArray):List (List UInt8)->Int->BN×Bool
 | [],_=>(ZEv,false)
 | w::ws,k=>if w=l then (AAb k (de a).1,(de a).2) else xC l a ws (k+1)
def RX (l:List UInt8) (t:List ByteArray):BN×Bool :=
 if l=[112,117,116] then (match t with
  | [a,b,c]=>((1,(de a).1,0,1,b,c),(de a).2)
  | _=>(ZEv,false))
 else if l=[103,101,116] then (match t with
  | [a,b]=>((1,(de a).1,0,2,b,O),(de a).2)
  | _=>(ZEv,false))
 else (match t with
  | [a]=>xC l a JU 2
  | _=>(ZEv,false))
theorem ul (p:ByteArray) (t:List ByteArray) (z:BN) (ht:t.length≠1):∀ (k i:Nat),i+k=5->DL (p::t) (i:Int) z (JU.map E3)=some (ZEv,false)
 | 0,i,hk=>by
  refine Hz ?_
  unfold Fo
  rw [if_neg (by rw [decide_eq_false (by simp [JU]<;>omega)]; simp)]
  rfl
 | k+1,i,hk=>by
  have ih:=ul p t z ht k (i+1) (by omega)
  refine Hz ?_
  unfold Fo
  rw [if_pos (decide_eq_true (by simp [JU]<;>omega)),if_pos (by omega),if_pos (by simp [JU]<;>omega),if_pos (by omega),if_pos (by simp<;>omega),AQ (by omega)]
  split
  ·exact ih
  ·rw [if_pos (by simp<;>omega)]
   exact ih
theorem AAc (p a:ByteArray) (z:BN):∀ (k i:Nat),i+k=5->DL [p,a] (i:Int) z (JU.map E3)=some (xC p.data.toList a (JU.drop i) (2+(i:Int)))
 | 0,i,hk=>by
  refine Hz ?_
  unfold Fo
  rw [if_neg (by rw [decide_eq_false (by simp [JU]<;>omega)]; simp),List.drop_eq_nil_of_le (by simp [JU]<;>omega)]
  rfl
 | k+1,i,hk=>by
  have hi:i<JU.length:=by simp [JU]; omega
  have hi2:i<(JU.map E3).length:=by simpa using hi
  have ih:=AAc p a z k (i+1) (by omega)
  refine Hz ?_
  unfold Fo
  rw [if_pos (decide_eq_true (by omega)),if_pos (by omega),if_pos (by omega),if_pos (by omega),if_pos (by simp),AQ (by omega),Ad,AT hi2,List.getElem_map,show ([p,a]:List ByteArray).getD (0:Int).toNat O=p from rfl,ADW,Am hi]
  unfold xC
  by_cases hw:JU[i]=p.data.toList
  ·rw [if_neg (by simp; exact hw),if_neg (by simp)]
   refine Eq.trans ?_ (congrArg some (if_pos hw).symm)
   refine fJ ?_
   unfold Sb AAb
   rw [if_pos (by omega),if_pos (by simp),show ([p,a]:List ByteArray).getD (1:Int).toNat O=a from rfl,F6,Z,Ai (by omega)]
   by_cases h4:2+(i:Int)<=4
   ·rw [if_pos (decide_eq_true h4),if_pos h4]
   ·rw [if_neg (by rw [decide_eq_false h4]; simp),if_neg h4]
  ·rw [if_pos (by simp; exact hw),ih]
   refine Eq.trans ?_ (congrArg some (if_neg hw).symm)
   congr 2
theorem j3 (p:ByteArray) (t:List ByteArray) (z:BN):DL (p::t) (0:Int) z (JU.map E3)=some (match t with
  | [a]=>xC p.data.toList a JU 2
  | _=>(ZEv,false)):=by
 match t with
 | []=>exact ul p [] z (by simp) 5 0 rfl
 | [a]=>exact AAc p a z 5 0 rfl
 | a::b::r=>exact ul p (a::b::r) z (by simp) 5 0 rfl
theorem gG (p:ByteArray) (t:List ByteArray):QH (p::t)=some (RX p.data.toList t):=n0 (by
 have h0:(p::t).getD (0:Int).toNat O=p:=rfl
 have J1:∀ b z,p.data.toList≠[112,117,116]\/t.length≠3->Hx (p::t) b z=some (RX p.data.toList t)\/p.data.toList=[112,117,116]/\Hx (p::t) b z=some (ZEv,false):=fun b z hb=>by
  by_cases hput:p.data.toList=[112,117,116]
  ·refine .inr ⟨hput,Sc ?_⟩
   unfold LK
   rw [if_pos (by omega),if_pos (by simp<;>omega),h0,ACo,if_neg (by rw [hput]; decide)]
   refine LN ?_
   unfold Hy
   rw [if_neg (by simp)]
   refine (j3 p t z).trans ?_
   match t with
   | []=>rfl
   | [a]=>rw [hput]; rfl
   | a::b::r=>rfl
  ·refine .inl (Sc ?_)
   unfold LK RX
   rw [if_pos (by omega),if_pos (by simp<;>omega),h0,ACo,if_neg hput]
   by_cases hget:p.data.toList=[103,101,116]
   ·rw [if_pos (decide_eq_true hget),if_pos hget]
    refine LN ?_
    unfold Hy
    match t with
    | [a,b] =>
     rw [if_pos (by simp),if_pos (by omega),if_pos (by simp),show (p::[a,b]).getD (1:Int).toNat O=a from rfl,F6,Z,if_pos (by omega),if_pos (by simp)]
     rfl
    | [] =>
     rw [if_neg (by simp)]
     exact (j3 p [] z).trans rfl
    | [a] =>
     rw [if_neg (by simp)]
     refine (j3 p [a] z).trans ?_
     rw [hget]
     rfl
    | a::b::c::r =>
     rw [if_neg (by simp<;>omega)]
     exact (j3 p (a::b::c::r) z).trans rfl
   ·rw [if_neg (by rw [decide_eq_false hget]; simp),if_neg hget]
    refine LN ?_
    unfold Hy
    rw [if_neg (by simp)]
    exact j3 p t z
 unfold Ys
 rw [if_pos (by omega),if_pos (by simp<;>omega),h0,ADL]
 by_cases hput:p.data.toList=[112,117,116]
 ·rw [if_pos (decide_eq_true hput)]
  refine Sd ?_
  unfold LL
  by_cases h3:t.length=3
  ·match t,h3 with
   | [a,b,c],_ =>
    rw [if_pos (by simp),if_pos (by omega),if_pos (by simp),show (p::[a,b,c]).getD (1:Int).toNat O=a from rfl,F6,Z,if_pos (by omega),if_pos (by simp),if_pos (by omega),if_pos (by simp)]
    unfold RX
    rw [if_pos hput]
    rfl
  ·rw [if_neg (by simp<;>omega)]
   rcases J1 (((p::t).length:Int)==4) ((0:Int),(0:Int),(0:Int),(0:Int),O,O) (.inr h3) with h | ⟨_,h⟩
   ·exact h
   ·rw [h]
    unfold RX
    rw [if_pos hput]
    match t,h3 with
    | [],_=>rfl
    | [a],_=>rfl
    | [a,b],_=>rfl
    | [a,b,c],h3=>exact absurd rfl h3
    | a::b::c::d::r,_=>rfl
 ·rw [if_neg (by rw [decide_eq_false hput]; simp)]
  refine Sd ?_
  unfold LL
  rw [if_neg (by simp)]
  rcases J1 false ((0:Int),(0:Int),(0:Int),(0:Int),O,O) (.inl hput) with h | ⟨h,_⟩
  ·exact h
  ·exact absurd h hput)
def ZQ (l:List UInt8):Int×Int :=
 if l=[112,117,116] then (1,4) else if l=[103,101,116] then (1,3) else if l=[100,101,108,105,118,101,114] then (2,2) else if l=[100,114,111,112] then (3,2) else if l=[99,111,112,121] then (4,2)
 else if l=[97,100,111,112,116] then (5,2) else if l=[102,97,108,108] then (6,2) else (0,0)
theorem mj (p:ByteArray):VR p=some (ZQ p.data.toList):=sU (by
 unfold dw ZQ
 rw [ADL,ACo,ADX,ADM,ADN,ACp,ADO]
 simp only [decide_eq_true_eq]
 (repeat' split)<;>rfl)
def wJ (r:BN×Bool):BN×Bool:=(r.1,r.2&&Su r.1)
theorem xv (b:Bool) (z e:BN):Eg b z e=some (wJ (e,b)):=by
 refine jC ?_
 unfold Um wJ
 cases b with
 | true=>rw [if_pos rfl,U7]; rfl
 | false=>rw [if_neg (by simp)]; rfl
theorem ACq (p a:ByteArray) (k c:Int) (b:Bool) (z:BN) (hk:2<=k/\k<=6):Ix [p,a] k c b z=some (wJ (AAb k (de a).1,(de a).2)):=by
 refine NL ?_
 unfold Iz AAb
 rw [if_pos (by omega),if_pos (by simp),show ([p,a]:List ByteArray).getD (1:Int).toNat O=a from rfl,F5,Z]
 have J1:∀ x5 e,x5=(k==2||k==3||k==4)->Eh [p,a] c (de a).1 (de a).2 k x5 z (k,(de a).1,0,0,O,O)=some (wJ (if k<=4 then (k,1,(de a).1,0,O,O) else (k,(de a).1,0,0,O,O),e))\/e≠(de a).2:=fun x5 e h5=>by
  by_cases he:e=(de a).2
  ·left
   subst he
   refine NK ?_
   unfold Iy
   by_cases h4:k<=4
   ·have:x5=true:=by
     rw [h5]
     have:k=2\/k=3\/k=4:=by omega
     rcases this with rfl | rfl | rfl<;>rfl
    rw [if_pos this,xv,if_pos h4]
   ·have:x5=false:=by
     rw [h5]
     have:k=5\/k=6:=by omega
     rcases this with rfl | rfl<;>rfl
    rw [if_neg (by rw [this]; simp),if_neg (by simp<;>omega),xv,if_neg h4]
  ·exact .inr he
 have fin:∀ x5,x5=(k==2||k==3||k==4)->Eh [p,a] c (de a).1 (de a).2 k x5 z (k,(de a).1,0,0,O,O)=some (wJ (if k<=4 then (k,1,(de a).1,0,O,O) else (k,(de a).1,0,0,O,O),(de a).2)):=fun x5 h5=>by
  rcases J1 x5 (de a).2 h5 with h | h
  ·exact h
  ·exact absurd rfl h
 by_cases h2:k=2
 ·rw [if_pos (by simp [h2])]
  exact fin _ (by rw [h2]; rfl)
 ·rw [if_neg (by simpa using h2)]
  by_cases h3:k=3
  ·rw [if_pos (by simp [h3])]
   exact fin _ (by rw [h3]; rfl)
  ·rw [if_neg (by simpa using h3)]
   refine fin _ ?_
   have e2:(k==2)=false:=by simpa using h2
   have e3:(k==3)=false:=by simpa using h3
   rw [e2,e3]
   rfl
theorem VI (p:ByteArray) (t:List ByteArray):SD (p::t)=some (wJ (RX p.data.toList t)):=qv (by
 have h0:(p::t).getD (0:Int).toNat O=p:=rfl
 unfold bQ
 rw [if_pos (by omega),if_pos (by simp<;>omega),h0,mj,Z]
 generalize hl:p.data.toList=l
 by_cases w1:l=[112,117,116]
 ·subst w1
  rw [show ZQ [112,117,116]=(1,4) from rfl,if_pos (by rfl)]
  match t with
  | [a,b,c] =>
   rw [if_neg (by simp)]
   refine NL ?_
   unfold Iz
   rw [if_pos (by omega),if_pos (by simp),show (p::[a,b,c]).getD (1:Int).toNat O=a from rfl,F5,Z,if_neg (by decide),if_neg (by decide)]
   refine NK ?_
   unfold Iy
   rw [if_neg (by decide),if_pos (by decide),if_pos (by omega),if_pos (by simp),if_pos (by decide),if_pos (by omega),if_pos (by simp),xv]
   rfl
  | []=>rw [if_pos (by simp)]; rfl
  | [a]=>rw [if_pos (by simp)]; rfl
  | [a,b]=>rw [if_pos (by simp)]; rfl
  | a::b::c::d::r=>rw [if_pos (by simp<;>omega)]; rfl
 by_cases w2:l=[103,101,116]
 ·subst w2
  rw [show ZQ [103,101,116]=(1,3) from rfl,if_pos (by rfl)]
  match t with
  | [a,b] =>
   rw [if_neg (by simp)]
   refine NL ?_
   unfold Iz
   rw [if_pos (by omega),if_pos (by simp),show (p::[a,b]).getD (1:Int).toNat O=a from rfl,F5,Z,if_neg (by decide),if_neg (by decide)]
   refine NK ?_
   unfold Iy
   rw [if_neg (by decide),if_pos (by decide),if_pos (by omega),if_pos (by simp),if_neg (by decide),xv]
   rfl
  | []=>rw [if_pos (by simp)]; rfl
  | [a]=>rw [if_pos (by simp)]; rfl
  | a::b::c::r=>rw [if_pos (by simp<;>omega)]; rfl
 have go:∀ k:Int,2<=k/\k<=6->ZQ l=(k,2)->(∀ a,RX l [a]=(AAb k (de a).1,(de a).2))->RX l []=(ZEv,false)->(∀ a b r,RX l (a::b::r)=(ZEv,false)) ->
   (if ((ZQ l).1==(0:Int))=false then (if (((p::t).length:Int) != (ZQ l).2)=true then (some (((0:Int),(0:Int),(0:Int),(0:Int),O,O),false)) else (Ix (p::t) (ZQ l).1 (ZQ l).2 (((p::t).length:Int) != (ZQ l).2) ((0:Int),(0:Int),(0:Int),(0:Int),O,O))) else (some (((0:Int),(0:Int),(0:Int),(0:Int),O,O),false)))=some (wJ (RX l t)):=by
  intro k hk e1 r1 r0 r2
  rw [e1,if_pos (by simp<;>omega)]
  match t with
  | [a] =>
   rw [if_neg (by simp),ACq p a k 2 _ _ hk,r1]
  | []=>rw [if_pos (by simp),r0]; rfl
  | a::b::r=>rw [if_pos (by simp<;>omega),r2]; rfl
 by_cases w3:l=[100,101,108,105,118,101,114]
 ·subst w3; exact go 2 (by omega) rfl (fun a=>rfl) rfl (fun a b r=>rfl)
 by_cases w4:l=[100,114,111,112]
 ·subst w4; exact go 3 (by omega) rfl (fun a=>rfl) rfl (fun a b r=>rfl)
 by_cases w5:l=[99,111,112,121]
 ·subst w5; exact go 4 (by omega) rfl (fun a=>rfl) rfl (fun a b r=>rfl)
 by_cases w6:l=[97,100,111,112,116]
 ·subst w6; exact go 5 (by omega) rfl (fun a=>rfl) rfl (fun a b r=>rfl)
 by_cases w7:l=[102,97,108,108]
 ·subst w7; exact go 6 (by omega) rfl (fun a=>rfl) rfl (fun a b r=>rfl)
 have ek:ZQ l=(0,0):=by unfold ZQ; rw [if_neg w1,if_neg w2,if_neg w3,if_neg w4,if_neg w5,if_neg w6,if_neg w7]
 have er:RX l t=(ZEv,false):=by
  unfold RX
  rw [if_neg w1,if_neg w2]
  match t with
  | []=>rfl
  | [a] =>
   show xC l a JU 2=_
   simp only [JU,xC]
   rw [if_neg (Ne.symm w3),if_neg (Ne.symm w4),if_neg (Ne.symm w5),if_neg (Ne.symm w6),if_neg (Ne.symm w7)]
  | a::b::r=>rfl
 rw [ek,er,if_neg (by simp)]
 rfl)

theorem AAd {p:List UInt8} {x:List (List UInt8)} {n:Nat} (hx:∀ q∈x,q.length<=n):∀ q∈P6 p x,q.length<=p.length+n:=by
 cases x with
 | nil=>intro q hq; simp only [P6,B5] at hq; rw [hq]; omega
 | cons a t =>
  intro q hq
  simp only [P6,BI] at hq
  rcases hq with rfl | hq
  ·have:=hx a (by simp); simp only [List.length_append]; omega
  ·have:=hx q (by simp [hq]); omega
theorem xw (c:UInt8):∀ l,∀ q∈cut c l,q.length<=l.length
 | []=>by simp [cut]
 | b::l=>by
  have ih:=xw c l
  unfold cut
  split
  ·intro q hq
   rcases BI.1 hq with rfl | hq
   ·simp
   ·have:=ih q hq; simp only [List.length_cons]; omega
  ·intro q hq
   have:=AAd (p:=[b]) ih q hq
   simp only [List.length_cons,List.length_nil] at this ⊢
   omega
theorem mm {x p:ByteArray} (h:p∈(Qb x).1):p.data.toList≠[]/\p.size<=600:=by
 unfold Qb at h
 split at h
 ·cases h
 ·rename_i hx
  split at h
  ·unfold uk at h
   split at h
   ·cases h
   ·simp only [cH,List.mem_map,List.mem_filter] at h
    obtain ⟨q,⟨hq,hn⟩,rfl⟩:=h
    refine ⟨fun e=>?_,?_⟩
    ·have e:q=[]:=e
     rw [e] at hn
     cases hn
    ·have:=xw 32 _ q hq
     rw [Ac]
     have:=EJ x
     omega
  ·cases h
theorem xx:∀ (ps:List (List UInt8)) (acc:List Int),(goL ps acc).1.length<=acc.length+ps.length
 | [],acc=>by simp [goL]
 | p::t,acc=>by
  unfold goL
  split
  ·have:=xx t (acc++[(de (E3 p)).1])
   simp only [List.length_append,List.length_cons,List.length_nil] at this ⊢
   omega
  ·simp
theorem rh {a:ByteArray} (h:a.size<=600):(CV a).1.length<=601:=by
 have h1:=xx (cut 44 a.data.toList) []
 have h2:=jy 44 a.data.toList
 have h3:=EJ a
 unfold CV
 simp only [List.length_nil] at h1
 omega
def VJ (x:ByteArray) (vs:List (List Int)) (es:List BN):Option (List (List Int)×List BN) :=
 if (Qb x).2=true then
  match (Qb x).1 with
  | []=>some (vs,es)
  | p::t =>
   if p.data.toList.getD 0 0=35 then some (vs,es)
   else if p.data.toList=[118,105,101,119] then (match t with
    | [a]=>if es.length=0/\(CV a).2=true/\Bw (vs++[(CV a).1]) (vs++[(CV a).1]).length (vs++[(CV a).1])=true then some (vs++[(CV a).1],es) else none
    | _=>none)
   else if (wJ (RX p.data.toList t)).2=true/\vs.length≠0/\es.length<70 then some (vs,es++[(RX p.data.toList t).1]) else none
 else none
structure cJ (vs:List (List Int)) (es:List BN) (n:Nat):Prop where
 vl:vs.length<=n
 el:es.length<=70
 w:∀ v∈vs,v.length<=601
 ok:vs.length≠0->Bw vs vs.length vs=true
 ev:∀ e∈es,Su e=true
theorem cJ.step {vs vs':List (List Int)} {es es':List BN} {n:Nat} {x:ByteArray} (h:cJ vs es n) (hs:VJ x vs es=some (vs',es')):cJ vs' es' (n+1):=by
 have up:cJ vs es (n+1):=⟨by have:=h.vl; omega,h.el,h.w,h.ok,h.ev⟩
 unfold VJ at hs
 split at hs
 ·split at hs
  ·cases hs; exact up
  ·rename_i p t hp
   split at hs
   ·cases hs; exact up
   ·split at hs
    ·split at hs
     ·rename_i a
      split at hs
      ·rename_i hc
       cases hs
       refine ⟨by have:=h.vl; simp; omega,h.el,fun v hv=>?_,fun _=>hc.2.2,h.ev⟩
       rcases CZ.1 hv with hv | hv
       ·exact h.w v hv
       ·rw [B5.1 hv]
        exact rh (mm (x:=x) (p:=a) (by rw [hp]; simp)).2
      ·cases hs
     ·cases hs
    ·split at hs
     ·rename_i hc
      cases hs
      refine ⟨by have:=h.vl; omega,by simp; omega,h.w,h.ok,fun e he=>?_⟩
      rcases CZ.1 he with he | he
      ·exact h.ev e he
      ·rw [B5.1 he]
       have:=hc.1
       simp only [wJ,AC] at this
       exact this.2
     ·cases hs
 ·cases hs
theorem X7 {p:ByteArray} (h:p.data.toList≠[]):Jw p ⟨#[35]⟩=some (decide (p.data.toList.getD 0 0=35)):=dN (by
 unfold RA
 have hs:=EJ p
 have hl:0<p.data.toList.length:=List.length_pos_iff.2 h
 have e:Dj p ⟨#[35]⟩=some (decide (p.data.toList.getD 0 0=35)):=NO (by
  unfold Gk
  have h1:(⟨#[35]⟩:ByteArray).size=1:=rfl
  rw [if_pos (decide_eq_true (by rw [h1]; omega)),if_pos (by omega),if_pos (by rw [h1]; omega),if_pos (by rw [h1]; omega),h1,P7,show (⟨#[35]⟩:ByteArray)=E3 [35] from rfl,isW]
  congr 1
  rw [Bool.eq_iff_iff,decide_eq_true_eq,decide_eq_true_eq,E2]
  obtain ⟨b,r,hq⟩:=List.exists_cons_of_ne_nil h
  rw [hq]
  simp [ur])
 rw [e]
 rfl)
theorem yy {p:ByteArray} {t:List ByteArray} {vs:List (List Int)} {es:List BN} (hw:∀ v∈vs,v.length<=601) (hv:vs.length<=1000) (ht:∀ a∈t,a.size<=600) :
  ∃ b st,K8 (p::t) (vs,es)=some (b,st)/\((b=true/\∃ a,t=[a]/\es.length=0/\(CV a).2=true/\Bw (vs++[(CV a).1]) (vs++[(CV a).1]).length (vs++[(CV a).1])=true/\st=(vs++[(CV a).1],es)) \/
   (b=false/\∀ a,t=[a]->¬ (es.length=0/\(CV a).2=true/\Bw (vs++[(CV a).1]) (vs++[(CV a).1]).length (vs++[(CV a).1])=true))):=by
 suffices g:∃ b st,LU (p::t) (vs,es)=some (b,st)/\((b=true/\∃ a,t=[a]/\es.length=0/\(CV a).2=true/\Bw (vs++[(CV a).1]) (vs++[(CV a).1]).length (vs++[(CV a).1])=true/\st=(vs++[(CV a).1],es)) \/
   (b=false/\∀ a,t=[a]->¬ (es.length=0/\(CV a).2=true/\Bw (vs++[(CV a).1]) (vs++[(CV a).1]).length (vs++[(CV a).1])=true))) from g.imp fun b g=>g.imp fun st g=>⟨fc g.1,g.2⟩
 unfold LU
 match t,ht with
 | [a],ht =>
  rw [if_pos (by simp)]
  by_cases he:es.length=0
  ·have ha:=ht a (by simp)
   have hlen:=rh ha
   have hvw:DB (vs++[(CV a).1])=some (Bw (vs++[(CV a).1]) (vs++[(CV a).1]).length (vs++[(CV a).1])):=VD _ (by simp; unfold maxLen; omega) (fun v hv'=>by
    rcases CZ.1 hv' with h | h
    ·have:=hw v h; unfold maxLen; omega
    ·rw [B5.1 h]; unfold maxLen; omega)
   rw [if_neg (by rw [decide_eq_false (by show ¬ ((es.length:Int)>0); omega)]; simp)]
   cases hb:(CV a).2 with
   | true =>
    refine ⟨Bw (vs++[(CV a).1]) (vs++[(CV a).1]).length (vs++[(CV a).1]),(vs++[(CV a).1],es),N3 ?_,?_⟩
    ·unfold IZ
     rw [if_pos (by omega),if_pos (by simp),show ([p,a]:List ByteArray).getD (1:Int).toNat O=a from rfl,XU a (by omega),Z,if_pos (by simp; omega),if_pos hb,hvw,Z]
    ·cases hq:Bw (vs++[(CV a).1]) (vs++[(CV a).1]).length (vs++[(CV a).1]) with
     | true=>exact .inl ⟨rfl,a,rfl,he,hb,hq,rfl⟩
     | false=>exact .inr ⟨rfl,fun a' e h=>by cases e; rw [hq] at h; cases h.2.2⟩
   | false =>
    refine ⟨false,(vs++[(CV a).1],es),N3 ?_,.inr ⟨rfl,fun a' e h=>by cases e; rw [hb] at h; cases h.2.1⟩⟩
    unfold IZ
    rw [if_pos (by omega),if_pos (by simp),show ([p,a]:List ByteArray).getD (1:Int).toNat O=a from rfl,XU a (by omega),Z,if_pos (by simp; omega),if_neg (by rw [hb]; simp)]
  ·exact ⟨false,(vs,es),by rw [if_pos (decide_eq_true (by show (es.length:Int)>0; omega))],.inr ⟨rfl,fun a' e h=>he h.1⟩⟩
 | [],_=>exact ⟨false,(vs,es),by rw [if_neg (by simp)],.inr ⟨rfl,fun a e=>by cases e⟩⟩
 | a::b::r,_=>exact ⟨false,(vs,es),by rw [if_neg (by simp<;>omega)],.inr ⟨rfl,fun a e=>by cases e⟩⟩
theorem yz {x:ByteArray} {vs:List (List Int)} {es:List BN} (h:cJ vs es 200) :
  ∃ st,K4 x (vs,es)=some ((VJ x vs es).isSome,st)/\∀ r,VJ x vs es=some r->st=r:=by
 suffices g:∃ st,LQ x (vs,es)=some ((VJ x vs es).isSome,st)/\∀ r,VJ x vs es=some r->st=r from g.imp fun st g=>⟨fR g.1,g.2⟩
 have hel:=h.el
 have hvl:=h.vl
 unfold LQ
 rw [j1,Z]
 unfold VJ
 cases h2:(Qb x).2 with
 | false =>
  rw [if_pos (by simp),if_neg (by simp)]
  exact ⟨_,rfl,fun r hr=>by cases hr⟩
 | true =>
  rw [if_neg (by simp),if_pos rfl]
  have hm:=fun p=>mm (x:=x) (p:=p)
  revert hm
  generalize (Qb x).1=ps
  intro hm
  match ps,hm with
  | [],_ =>
   rw [if_neg (by simp)]
   exact ⟨_,rfl,fun r hr=>by cases hr; rfl⟩
  | p::t,hm =>
   have hp:=hm p (by simp)
   have ht:∀ a∈t,a.size<=600:=fun a ha=>(hm a (by simp [ha])).2
   rw [if_pos (by simp<;>omega),if_pos (by omega),if_pos (by simp<;>omega),show (p::t).getD (0:Int).toNat O=p from rfl,X7 hp.1,Z]
   by_cases h35:p.data.toList.getD 0 0=35
   ·rw [if_pos (decide_eq_true h35)]
    simp only [h35,if_true]
    exact ⟨_,rfl,fun r hr=>by cases hr; rfl⟩
   ·rw [if_neg (by rw [decide_eq_false h35]; simp)]
    simp only [h35,if_false]
    by_cases hv:p.data.toList=[118,105,101,119]
    ·obtain ⟨b,st,e1,e2⟩:=yy (p:=p) (t:=t) (es:=es) h.w (by omega) ht
     refine ⟨st,?_,?_⟩
     ·refine (IV (r:=(b,st)) ?_).trans ?_
      ·unfold D1
       rw [if_pos (by omega),if_pos (by simp<;>omega),show (p::t).getD (0:Int).toNat O=p from rfl,xu,if_pos (decide_eq_true hv),e1]
       rfl
      ·congr 2
       rcases e2 with ⟨rfl,a,rfl,q1,q2,q3,_⟩ | ⟨rfl,q⟩
       ·simp only [hv,if_true]
        rw [if_pos ⟨q1,q2,q3⟩]
        rfl
       ·simp only [hv,if_true]
        match t,q with
        | [a],q=>simp only []; rw [if_neg (q a rfl)]; rfl
        | [],_=>rfl
        | a::b::r,_=>rfl
     ·intro r hr
      simp only [hv,if_true] at hr
      rcases e2 with ⟨rfl,a,rfl,q1,q2,q3,q4⟩ | ⟨rfl,q⟩
      ·simp only [] at hr
       rw [if_pos ⟨q1,q2,q3⟩] at hr
       cases hr
       exact q4
      ·match t,q with
       | [a],q=>simp only [] at hr; rw [if_neg (q a rfl)] at hr; cases hr
       | [],_=>cases hr
       | a::b::r,_=>cases hr
    ·simp only [hv,if_false]
     by_cases hc:(wJ (RX p.data.toList t)).2=true/\vs.length≠0/\es.length<70
     ·rw [if_pos hc]
      refine ⟨(vs,es++[(RX p.data.toList t).1]),IV ?_,fun r hr=>by cases hr; rfl⟩
      unfold D1
      rw [if_pos (by omega),if_pos (by simp<;>omega),show (p::t).getD (0:Int).toNat O=p from rfl,xu,if_neg (by rw [decide_eq_false hv]; simp),VI,Z,if_pos (by simp; omega),if_pos hc.1,if_pos (decide_eq_true (by omega))]
      rw [decide_eq_true (by simp; omega)]
      rfl
     ·rw [if_neg hc]
      have:∀ bb,∃ st,IU (p::t) bb vs es=some (false,st):=fun bb=>by
       suffices g:∃ st,D1 (p::t) bb vs es=some (false,st) from g.imp fun st g=>IV g
       unfold D1
       rw [if_pos (by omega),if_pos (by simp<;>omega),show (p::t).getD (0:Int).toNat O=p from rfl,xu,if_neg (by rw [decide_eq_false hv]; simp),VI,Z,if_pos (by simp; omega)]
       cases hb:(wJ (RX p.data.toList t)).2 with
       | false=>exact ⟨_,by rw [if_neg (by simp)]⟩
       | true =>
        rw [if_pos rfl]
        by_cases h0:vs.length=0
        ·exact ⟨_,by rw [if_neg (by rw [decide_eq_false (by omega)]; simp)]⟩
        ·rw [if_pos (decide_eq_true (by omega))]
         exact ⟨_,by rw [decide_eq_false (by simp; have:¬ es.length<70:=fun h=>hc ⟨hb,h0,h⟩; omega)]⟩
      obtain ⟨st,hst⟩:=this _
      exact ⟨st,hst,fun r hr=>by cases hr⟩

abbrev um:Type:=List (List Int)×List BN×Int
def uo:List ByteArray->Nat->List (List Int)->List BN->um
 | [],_,vs,es=>if vs.length=0 then ([],[],1) else (vs,es,0)
 | x::t,i,vs,es=>match VJ x vs es with
  | none=>([],[],(i:Int)+1)
  | some r=>uo t (i+1) r.1 r.2
def BB (x:ByteArray):um:=if 4000<x.size\/100<(Ot x).length then ([],[],-1) else uo (Ot x) 0 [] []
theorem cJ.nil (n:Nat):cJ [] [] n:=⟨Nat.zero_le _,Nat.zero_le _,fun v hv=>by simp at hv,fun h=>absurd rfl h,fun e he=>by simp at he⟩
theorem cJ.up {vs:List (List Int)} {es:List BN} {n m:Nat} (h:cJ vs es n) (hm:n<=m):cJ vs es m:=⟨Nat.le_trans h.vl hm,h.el,h.w,h.ok,h.ev⟩
theorem AAe:∀ (ls:List ByteArray) (i:Nat) (vs:List (List Int)) (es:List BN),cJ vs es i->(uo ls i vs es).2.2=0->XV (uo ls i vs es).1/\(uo ls i vs es).2.1.length<=70/\∀ e∈(uo ls i vs es).2.1,Su e=true
 | [],i,vs,es,h=>by
  unfold uo
  split
  ·intro h0; cases h0
  ·rename_i h0
   exact fun _=>⟨⟨h.ok h0⟩,h.el,h.ev⟩
 | x::t,i,vs,es,h=>by
  unfold uo
  cases hs:VJ x vs es with
  | none=>intro h0; have h0:(i:Int)+1=0:=h0; omega
  | some r=>exact AAe t (i+1) r.1 r.2 (h.step (vs':=r.1) (es':=r.2) hs)
theorem wC:∀ (ls:List ByteArray) (i:Nat) (vs:List (List Int)) (es:List BN),0<=(uo ls i vs es).2.2/\(uo ls i vs es).2.2<=(i:Int)+ls.length+1
 | [],i,vs,es=>by
  unfold uo
  split
  ·simp; omega
  ·simp; omega
 | x::t,i,vs,es=>by
  unfold uo
  cases hs:VJ x vs es with
  | none=>simp; omega
  | some r =>
   have:=wC t (i+1) r.1 r.2
   simp only [List.length_cons]
   omega
theorem tM {ls:List ByteArray} (hl:ls.length<=100):∀ (k i:Nat) (vs:List (List Int)) (es:List BN),i+k=ls.length->cJ vs es i->Gf ls (ls.length:Int) (i:Int) vs es=some (uo (ls.drop i) i vs es)
 | 0,i,vs,es,hk,h=>by
  refine Pp ?_
  unfold JM
  rw [if_neg (by rw [decide_eq_false (by omega)]; simp),List.drop_eq_nil_of_le (by omega)]
  refine ar ?_
  unfold Pm uo
  by_cases h0:vs.length=0
  ·rw [if_pos (by simp [h0]),if_pos h0]
  ·rw [if_neg (by simpa using h0),if_neg h0]
 | k+1,i,vs,es,hk,h=>by
  have hi:i<ls.length:=by omega
  obtain ⟨st,e1,e2⟩:=yz (x:=ls[i]) (h.up (show i<=200 by omega))
  refine Pp ?_
  unfold JM
  rw [if_pos (decide_eq_true (by omega)),if_pos (by omega),if_pos (by omega),Ad,AT hi,e1,Z,Am hi,AQ (by omega)]
  unfold uo
  cases hs:VJ ls[i] vs es with
  | none =>
   rw [if_pos (by simp)]
   rfl
  | some r =>
   rw [if_neg (by simp),e2 r hs]
   exact tM hl k (i+1) r.1 r.2 (by omega) (h.step hs)
theorem y_ {ls:List ByteArray} (hl:ls.length<=100) {i:Nat} (hi:i<ls.length) {vs:List (List Int)} {es:List BN} (h:cJ vs es i) (Q:List (List Int)×List BN->um)
  (hn:∀ r,VJ ls[i] vs es=some r->Bt [] ls ((i+1:Nat):Int) r.1 r.2=some (Q r)) :
  Bt [] ls (i:Int) vs es=some (match VJ ls[i] vs es with
   | none=>([],[],(i:Int)+1)
   | some r=>Q r):=by
 have hel:=h.el
 have hvl:=h.vl
 have wi:IntKind.i64.wrap ((i:Int)+1)=((i+1:Nat):Int):=AQ (by omega)
 have wi2:((i+1:Nat):Int)=(i:Int)+1:=by omega
 refine Pj ?_
 unfold JL
 rw [if_pos (decide_eq_true (by omega)),if_pos (by omega),if_pos (by omega),Ad,AT hi,jz,Z,wi]
 unfold VJ at hn ⊢
 cases h2:(Qb ls[i]).2 with
 | false =>
  rw [if_neg (by simp)]
  refine (Pi (r:=([],[],((i+1:Nat):Int))) ?_).trans ?_
  ·unfold JK
   rw [if_pos (by simp),wi]
  ·rw [wi2]; simp
 | true =>
  rw [h2] at hn
  rw [if_pos rfl]
  simp only [if_true] at hn ⊢
  have hm:=fun p=>mm (x:=ls[i]) (p:=p)
  revert hm hn
  generalize (Qb ls[i]).1=ps
  intro hn hm
  match ps,hm,hn with
  | [],_,hn =>
   rw [if_neg (by simp)]
   exact hn _ rfl
  | p::t,hm,hn =>
   have hp:=hm p (by simp)
   have hps:0<p.size:=by
    have:=EJ p
    have:=List.length_pos_iff.2 hp.1
    omega
   have h0:(p::t).getD (0:Int).toNat O=p:=rfl
   rw [if_pos (by simp<;>omega),if_pos (by omega),if_pos (by simp<;>omega),if_pos (by omega),h0,if_pos (by omega),show (0:Int).toNat=0 from rfl,ADK]
   simp only [] at hn ⊢
   by_cases h35:p.data.toList.getD 0 0=35
   ·rw [if_pos (decide_eq_true h35)]
    simp only [h35,if_true] at hn ⊢
    exact hn _ rfl
   ·rw [if_neg (by rw [decide_eq_false h35]; simp)]
    simp only [h35,if_false] at hn ⊢
    have J4:p.data.toList≠[118,105,101,119]\/t.length≠1->∀ b,JG [] ls (i:Int) (p::t) b vs es=some (if (wJ (RX p.data.toList t)).2=true/\vs.length≠0/\es.length<70 then (if p.data.toList=[118,105,101,119] then ([],[],(i:Int)+1) else Q (vs,es++[(RX p.data.toList t).1])) else ([],[],(i:Int)+1)):=by
     intro hv b
     refine ah ?_
     unfold Pe
     rw [gG,Z,wi,wi2]
     cases hr:(RX p.data.toList t).2 with
     | false =>
      rw [if_neg (by simp),if_neg (by unfold wJ; rw [hr]; simp)]
     | true =>
      rw [if_pos (by simp),U8,Z]
      cases ho:Su (RX p.data.toList t).1 with
      | false=>rw [if_neg (by simp),if_neg (by unfold wJ; rw [ho]; simp)]
      | true =>
       have hev:(wJ (RX p.data.toList t)).2=true:=by unfold wJ; rw [hr,ho]; rfl
       rw [if_pos (by simp)]
       by_cases hv0:vs.length=0
       ·rw [if_neg (by simp [hv0]),if_neg (fun h=>h.2.1 hv0)]
       ·rw [if_pos (by simpa using hv0)]
        by_cases h70:es.length=70
        ·rw [if_pos (by simp [h70]),if_neg (by omega)]
        ·rw [if_neg (by simp; omega),if_pos (by simp; omega),if_pos ⟨hev,hv0,by omega⟩]
         by_cases hvw:p.data.toList=[118,105,101,119]
         ·exfalso
          have e:RX [118,105,101,119] t=(ZEv,false):=by
           match t with
           | []=>rfl
           | [a]=>rfl
           | a::b::r=>rfl
          rw [hvw,e] at hr
          cases hr
         ·rw [if_neg hvw]
          have:=hn (vs,es++[(RX p.data.toList t).1]) (by simp only [hvw,if_false]; rw [if_pos ⟨hev,hv0,by omega⟩])
          rw [wi2] at this
          exact this
    refine Pi ?_
    unfold JK
    rw [if_neg (by simp),if_pos (by omega),if_pos (by simp<;>omega),h0,xu]
    by_cases hv:p.data.toList=[118,105,101,119]
    ·rw [if_pos (decide_eq_true hv)]
     simp only [hv,if_true] at hn ⊢
     refine Ph ?_
     unfold JJ
     match t,hm,hn,J4 with
     | [a],hm,hn,J4 =>
      have ha:=(hm a (by simp)).2
      have hlen:=rh ha
      have hvw:DA (vs++[(CV a).1])=some (Bw (vs++[(CV a).1]) (vs++[(CV a).1]).length (vs++[(CV a).1])):=U_ _ (by simp; unfold maxLen; omega) (fun v hv'=>by
       rcases CZ.1 hv' with h' | h'
       ·have:=h.w v h'; unfold maxLen; omega
       ·rw [B5.1 h']; unfold maxLen; omega)
      rw [if_pos (by simp),if_pos (by omega),if_pos (by simp),show ([p,a]:List ByteArray).getD (1:Int).toNat O=a from rfl,df a (by omega),Z,if_pos (by simp; omega),wi]
      simp only [] at hn ⊢
      cases hb:(CV a).2 with
      | false =>
       rw [if_neg (by simp),if_neg (by simp),wi2]
      | true =>
       rw [if_pos (by simp)]
       by_cases he:es.length=0
       ·rw [if_pos (by rw [decide_eq_false (by omega)]),hvw,Z]
        cases hq:Bw (vs++[(CV a).1]) (vs++[(CV a).1]).length (vs++[(CV a).1]) with
        | false=>rw [if_pos (by simp),if_neg (by simp),wi2]
        | true =>
         rw [if_neg (by simp),if_pos ⟨he,rfl,rfl⟩]
         exact hn (vs++[(CV a).1],es) (by rw [if_pos ⟨he,hb,hq⟩])
       ·rw [if_neg (by rw [decide_eq_true (by omega)]; simp),if_neg (fun h=>he h.1),wi2]
     | [],hm,hn,J4 =>
      rw [if_neg (by simp),J4 (.inr (by simp)),hv]
      simp
     | a::b::r,hm,hn,J4 =>
      rw [if_neg (by simp<;>omega),J4 (.inr (by simp)),hv]
      simp
    ·rw [if_neg (by rw [decide_eq_false hv]; simp)]
     simp only [hv,if_false] at hn ⊢
     refine Ph ?_
     unfold JJ
     rw [if_neg (by simp),J4 (.inl hv)]
     split
     ·rfl
     ·rfl
theorem tN {ls:List ByteArray} (hl:ls.length<=100):∀ (k i:Nat) (vs:List (List Int)) (es:List BN),i+k=ls.length->cJ vs es i->Bt [] ls (i:Int) vs es=some (uo (ls.drop i) i vs es)
 | 0,i,vs,es,hk,h=>by
  refine Pj ?_
  unfold JL
  rw [if_neg (by rw [decide_eq_false (by omega)]; simp),List.drop_eq_nil_of_le (by omega)]
  refine ak ?_
  unfold Pf uo
  by_cases h0:vs.length=0
  ·rw [if_pos (by simp [h0]),if_pos h0]
  ·rw [if_neg (by simpa using h0),if_neg h0]
 | k+1,i,vs,es,hk,h=>by
  have hi:i<ls.length:=by omega
  rw [Am hi]
  unfold uo
  exact y_ hl hi h (fun r=>uo (ls.drop (i+1)) (i+1) r.1 r.2) fun r hr=>tN hl k (i+1) r.1 r.2 (by omega) (h.step hr)
theorem cK (x:ByteArray) (hx:x.size<=1048576):Mk x=some (BB x):=iK (by
 unfold UL BB
 by_cases h:4000<x.size
 ·rw [if_neg (by rw [decide_eq_true (by omega)]; simp),if_pos (.inl h)]
 ·rw [if_pos (decide_eq_false (by omega)),Sz x hx,Z]
  by_cases hl:100<(Ot x).length
  ·rw [if_pos (decide_eq_true (by omega)),if_pos (.inr hl)]
  ·rw [if_neg (by rw [decide_eq_false (by omega)]; simp),if_neg (by omega)]
   refine am ?_
   unfold Pg
   rw [Sz x hx,Z]
   exact tN (by omega) (Ot x).length 0 [] [] (by omega) (cJ.nil 0))
theorem cL (x:ByteArray) (hx:x.size<=1048576):Ml x=some (BB x):=iT (by
 have hc:=jy 10 x.data.toList
 have hs:=EJ x
 have hne:=mg 10 x.data.toList
 have hlen:(cE 10 x).length=(cut 10 x.data.toList).length:=by simp [cE]
 have J0:Gg x (Ot x)=some (BB x):=ax (by
  unfold Po BB
  by_cases h:4000<x.size
  ·rw [if_neg (by rw [decide_eq_true (by omega)]; simp),if_pos (.inl h)]
  ·rw [if_pos (decide_eq_false (by omega))]
   by_cases hl:100<(Ot x).length
   ·rw [if_pos (decide_eq_true (by omega)),if_pos (.inr hl)]
   ·rw [if_neg (by rw [decide_eq_false (by omega)]; simp),if_neg (by omega)]
    refine au ?_
    unfold Pn
    exact tM (by omega) (Ot x).length 0 [] [] (by omega) (cJ.nil 0))
 have w:IntKind.i64.wrap (((cE 10 x).length:Int)-1)=(((cE 10 x).length-1:Nat):Int):=by rw [Ai (by omega)]; omega
 have hi:(cE 10 x).length-1<(cE 10 x).length:=by omega
 have hi2:(cut 10 x.data.toList).length-1<(cut 10 x.data.toList).length:=by omega
 have elast:(cE 10 x)[(cE 10 x).length-1]=E3 ((cut 10 x.data.toList)[(cut 10 x.data.toList).length-1]):=by
  simp [cE]
 have el2:(cut 10 x.data.toList).getLast? = some ((cut 10 x.data.toList)[(cut 10 x.data.toList).length-1]):=by
  rw [List.getLast?_eq_getElem?,List.getElem?_eq_getElem hi2]
 unfold UP
 rw [KJ _ _ (by omega),Z,w,if_pos (by omega),if_pos (by omega),Ad,AT hi,elast,show (⟨#[]⟩:ByteArray)=E3 [] from rfl,isW,E2]
 by_cases he:(cut 10 x.data.toList)[(cut 10 x.data.toList).length-1]=[]
 ·rw [if_pos (decide_eq_true he),if_pos (by omega),if_pos (by omega),if_pos (by omega)]
  have e:((cE 10 x).take ((cE 10 x).length-1)).drop (0:Int).toNat=Ot x:=by
   unfold Ot
   rw [gD hne,el2,he,if_pos rfl]
   simp [cE,List.dropLast_eq_take,List.map_take]
  rw [e]
  exact J0
 ·rw [if_neg (by rw [decide_eq_false he]; simp)]
  have e:cE 10 x=Ot x:=by
   unfold Ot
   rw [gD hne,el2,if_neg (by simpa using he)]
   rfl
  rw [e]
  exact J0)
theorem mn {x:ByteArray} (h:(BB x).2.2=0):XV (BB x).1/\(BB x).2.1.length<=70/\∀ e∈(BB x).2.1,Su e=true:=by
 unfold BB at h ⊢
 split at h
 ·cases h
 ·rename_i hc
  rw [if_neg hc]
  exact AAe _ 0 [] [] (cJ.nil 0) h
theorem nL (x:ByteArray):-1<=(BB x).2.2/\(BB x).2.2<=101:=by
 unfold BB
 split
 ·simp
 ·rename_i hc
  have:=wC (Ot x) 0 [] []
  omega

theorem O7 (b:ByteArray):(Cg b).length=b.size:=by simp [Cg]
theorem rk (b:ByteArray):Ed (Cg b)=b:=by
 apply ByteArray.ext
 apply Array.ext'
 simp only [Ed,Cg,List.map_map]
 have:((fun n:Int=>UInt8.ofNat n.toNat) ∘ fun u:UInt8=>(u.toNat:Int))=id:=by funext u; simp
 rw [this,List.map_id]
theorem uq (b:ByteArray):mq (Cg b)=true:=by
 simp only [mq,Cg,List.all_map,Bf,Function.comp,AC,decide_eq_true_eq]
 intro u _
 have:u.toNat<256:=u.toNat_lt
 omega
theorem sg (a b:ByteArray):Cg (a++b)=Cg a++Cg b:=by
 simp [Cg,ByteArray.data_append]

theorem IB (l:List UInt8) (y:ByteArray):E3 l++y=E3 (l++y.data.toList):=by
 rw [C2,cD]
def sh (l:List UInt8):List Int:=Cg (E3 l)
theorem wD (l:List UInt8) (y:ByteArray):sh l++Cg y=sh (l++y.data.toList):=by
 unfold sh
 rw [<- sg,IB]
theorem wE (l:List UInt8):(sh l).length=l.length:=by unfold sh; rw [O7,Ac]
theorem AAf (u:Nat):(Go.Lib.decDigits u).length<=u+1:=by
 induction u using Nat.strongRecOn with
 | _ u ih =>
  by_cases h:u<10
  ·rw [Go.Lib.decDigits_one h]; simp
  ·rw [Go.Lib.decDigits.eq_def,dif_neg h]
   have:=ih (u / 10) (by omega)
   simp only [List.length_append,List.length_cons,List.length_nil]
   omega
theorem wF {n:Int} (h:-1000<=n/\n<=1000):(Go.Lib.itoa n).length<=1002:=by
 unfold Go.Lib.itoa
 split
 ·have:=AAf n.natAbs
  simp only [List.length_cons]
  omega
 ·have:=AAf n.toNat
  omega
theorem Ou {n:Int} (h:0<=n/\n<10):(Go.Lib.itoa n).length=1:=by
 unfold Go.Lib.itoa
 rw [if_neg (by omega),Go.Lib.decDigits_one (by omega)]
 rfl
theorem rl {n:Int} (h:0<=n/\n<10):C_ n=some (E3 (Go.Lib.itoa n)):=by
 obtain ⟨q,rfl⟩:∃ q:Nat,n=(q:Int):=⟨n.toNat,by omega⟩
 exact Nh (by omega)
def si:List Int->List UInt8
 | []=>[]
 | c::cs=>Go.Lib.itoa c++cs.flatMap fun n=>32::Go.Lib.itoa n
def AAg (cs:List Int):List UInt8:=if cs.length=0 then [] else si cs++[10]
def OK (c:Nb):List UInt8 :=
 if 0<=c.2.2.2.2.1 then (if c.1=1 then [112,117,116,32]++c.2.1.data.toList++[10] else [103,101,116,32]++c.2.1.data.toList++[32]++c.2.2.2.2.2.2.2.2.data.toList++[10]) else []
def o5 (m:AD):List UInt8:=if m.2.2.2.2.2.1=true then [115,101,114,118,101,115,32]++Go.Lib.itoa m.1++[10] else []
def zA (g:Ag) (cs:List Int):List UInt8:=AAg cs++g.2.2.2.flatMap OK++g.2.1.flatMap o5
theorem tO {c:Nb} (h:SmC c):(OK c).length<=40:=by
 obtain ⟨_,h2,h3⟩:=h
 rw [D6] at h2 h3
 unfold OK
 (repeat' split)<;>simp only [List.length_append,List.length_cons,List.length_nil]<;>omega
theorem rm {g:Ag} {ws:List ByteArray} (hm:∀ m∈g.2.1,0<=m.1/\m.1<10):∀ (k i:Nat) (l:List UInt8),i+k=g.2.1.length->g.2.1.length<=10->l.length<=20000+10*i->Gc g.2.1 (g.2.1.length:Int) (i:Int) g ws (sh l)=some (E3 (l++(g.2.1.drop i).flatMap o5))
 | 0,i,l,hk,h6,hl=>by
  refine UI ?_
  unfold M1
  rw [if_neg (by rw [decide_eq_false (by omega)]; simp),List.drop_eq_nil_of_le (by omega),RQ,Z,if_pos (by unfold sh; exact uq _)]
  unfold sh
  rw [rk]
  simp
 | k+1,i,l,hk,h6,hl=>by
  have hi:i<g.2.1.length:=by omega
  have hid:=hm g.2.1[i] (BW hi)
  refine UI ?_
  unfold M1
  rw [if_pos (decide_eq_true (by omega)),if_pos (by omega),if_pos (by omega),Ad,AT hi,Am hi,AQ (by omega),List.flatMap_cons]
  by_cases hs:g.2.1[i].2.2.2.2.2.1=true
  ·have s7:(⟨#[115,101,114,118,101,115,32]⟩:ByteArray)=E3 [115,101,114,118,101,115,32]:=rfl
   have s1:(⟨#[10]⟩:ByteArray)=E3 [10]:=rfl
   have hq:=Ou hid
   rw [if_pos hs,I6 (by omega) (by omega),Z,s7,s1,if_pos (by simp only [Ac,hq]; decide),<- C2,if_pos (by simp only [Ac,List.length_append,hq]; decide),<- C2,Dg,Z,
    if_pos (by rw [wE,O7,Ac]; simp only [List.length_append,hq,List.length_cons,List.length_nil]; omega),wD,E2]
   rw [rm hm k (i+1) _ (by omega) h6 (by simp only [List.length_append,hq,List.length_cons,List.length_nil]; omega)]
   unfold o5
   rw [if_pos hs]
   simp
  ·rw [if_neg hs,rm hm k (i+1) l (by omega) h6 (by omega)]
   unfold o5
   rw [if_neg hs]
   simp
theorem mo {g:Ag} {ws:List ByteArray} (hm:∀ m∈g.2.1,0<=m.1/\m.1<10) (h6:g.2.1.length<=10) (hc:∀ c∈g.2.2.2,SmC c) (h70:g.2.2.2.length<=70):∀ (k i:Nat) (l:List UInt8),i+k=g.2.2.2.length->l.length<=10000+40*i ->
  Gd g.2.2.2 (g.2.2.2.length:Int) (i:Int) g ws (sh l)=some (E3 (l++(g.2.2.2.drop i).flatMap OK++g.2.1.flatMap o5))
 | 0,i,l,hk,hl=>by
  refine UJ ?_
  unfold M2
  rw [if_neg (by rw [decide_eq_false (by omega)]; simp),List.drop_eq_nil_of_le (by omega)]
  refine iH ?_
  unfold UF
  have:=rm (ws:=ws) hm g.2.1.length 0 l (by omega) h6 (by omega)
  refine Eq.trans this ?_
  simp
 | k+1,i,l,hk,hl=>by
  have hi:i<g.2.2.2.length:=by omega
  have hsm:=hc g.2.2.2[i] (BW hi)
  have hlen:=tO hsm
  obtain ⟨o1,o2,o3⟩:=hsm
  refine UJ ?_
  unfold M2
  rw [if_pos (decide_eq_true (by omega)),if_pos (by omega),if_pos (by omega),Ad,AT hi,Am hi,AQ (by omega),List.flatMap_cons,
   show VN g.2.2.2[i]=some (decide (g.2.2.2[i].2.2.2.2.1>=0)) from sO rfl,Z]
  by_cases hd:0<=g.2.2.2[i].2.2.2.2.1
  ·have hct:QG g.2.2.2[i]=some (E3 (OK g.2.2.2[i])):=ny (by
    unfold Yq OK
    rw [if_pos hd]
    have s4:(⟨#[112,117,116,32]⟩:ByteArray)=E3 [112,117,116,32]:=rfl
    have g4:(⟨#[103,101,116,32]⟩:ByteArray)=E3 [103,101,116,32]:=rfl
    have s1:(⟨#[10]⟩:ByteArray)=E3 [10]:=rfl
    have b1:(⟨#[32]⟩:ByteArray)=E3 [32]:=rfl
    rw [s4,g4,s1,b1]
    rw [D6] at o2 o3
    by_cases h1:g.2.2.2[i].1=1
    ·rw [if_pos (by simp [h1]),if_pos h1,IB,IB,E2,if_pos (by rw [Ac,D6]; simp only [List.length_cons,List.length_nil]; omega),if_pos (by rw [Ac,Ac]; simp only [List.length_append,List.length_cons,List.length_nil]; omega)]
    ·rw [if_neg (by simpa using h1),if_neg h1,IB,IB,IB,IB,E2,E2,if_pos (by rw [Ac,D6]; simp only [List.length_cons,List.length_nil]; omega),if_pos (by rw [Ac,Ac]; simp only [List.length_append,List.length_cons,List.length_nil]; omega),
      if_pos (by rw [Ac,D6]; simp only [List.length_append,List.length_cons,List.length_nil]; omega),if_pos (by rw [Ac,Ac]; simp only [List.length_append,List.length_cons,List.length_nil]; omega)])
   rw [if_pos (decide_eq_true hd),hct,Z,Dg,Z,if_pos (by rw [wE,O7,Ac]; omega),wD,E2,
    mo hm h6 hc h70 k (i+1) _ (by omega) (by simp only [List.length_append]; omega)]
   simp
  ·rw [if_neg (by rw [decide_eq_false (by omega)]; simp),mo hm h6 hc h70 k (i+1) l (by omega) (by omega)]
   have:OK g.2.2.2[i]=[]:=by unfold OK; rw [if_neg hd]
   rw [this]
   simp
theorem ABw (c:Int) (cs:List Int):Go.Lib.join (((c::cs).map fun n=>E3 (Go.Lib.itoa n)).map (·.data.toList)) (⟨#[32]⟩:ByteArray).data.toList=si (c::cs):=by
 rw [List.map_map,List.map_cons,Go.Lib.join_cons]
 unfold si Go.Lib.joinTail
 congr 1
 rw [List.map_map,List.flatMap_def]
 rfl
theorem wG:∀ {cs:List Int},(∀ c∈cs,0<=c/\c<10)->(si cs).length<=2*cs.length
 | [],_=>by simp [si]
 | c::cs,h=>by
  have key:∀ l:List Int,(∀ c∈l,0<=c/\c<10)->(l.flatMap fun n=>(32:UInt8)::Go.Lib.itoa n).length<=2*l.length:=by
   intro l
   induction l with
   | nil=>intro _; simp
   | cons a l ih =>
    intro hl
    have:=ih fun x hx=>hl x (by simp [hx])
    rw [List.flatMap_cons,List.length_append,List.length_cons,Ou (hl a (by simp)),List.length_cons]
    omega
  have:=key cs fun x hx=>h x (by simp [hx])
  unfold si
  rw [List.length_append,Ou (h c (by simp)),List.length_cons]
  omega
theorem tP {g:Ag} {cs:List Int} (hcs:∀ c∈cs,0<=c/\c<10) (hcl:cs.length<=70) (hm:∀ m∈g.2.1,0<=m.1/\m.1<10) (h6:g.2.1.length<=10) (hc:∀ c∈g.2.2.2,SmC c) (h70:g.2.2.2.length<=70):∀ (k i:Nat),i+k=cs.length ->
  In cs (cs.length:Int) (i:Int) g ((cs.take i).map fun n=>E3 (Go.Lib.itoa n))=some (E3 (zA g cs))
 | 0,i,hk=>by
  have J2:∀ ws l,l.length<=10000->Im g ws (sh l)=some (E3 (l++g.2.2.2.flatMap OK++g.2.1.flatMap o5)):=fun ws l hl=>by
   refine iI ?_
   unfold UG
   have:=mo (ws:=ws) hm h6 hc h70 g.2.2.2.length 0 l (by omega) (by omega)
   refine Eq.trans this ?_
   simp
  refine UK ?_
  unfold M3
  rw [if_neg (by rw [decide_eq_false (by omega)]; simp),List.take_of_length_le (by omega)]
  refine iJ ?_
  unfold UH zA AAg
  cases hq:cs with
  | nil =>
   rw [if_neg (by simp)]
   exact (J2 _ [] (by simp)).trans (by simp)
  | cons c r =>
   have hlen:=wG hcs
   rw [hq] at hlen hcl
   have hj:=ABw c r
   rw [if_pos (by simp<;>omega),qe (by simp) (by simp only [List.length_map]; omega) (by rw [hj]; simp only [List.length_cons] at hlen hcl; omega),hj,Z,show (⟨(si (c::r)).toArray⟩:ByteArray)=E3 (si (c::r)) from rfl,show (⟨#[10]⟩:ByteArray)=E3 [10] from rfl,
    if_pos (by rw [Ac,Ac]; simp only [List.length_cons,List.length_nil] at hlen hcl ⊢; omega),<- C2,Dg,Z,if_pos (by rw [O7,Ac]; simp only [List.length_append,List.length_cons,List.length_nil] at hlen hcl ⊢; omega),
    if_neg (by simp)]
   exact J2 _ (si (c::r)++[10]) (by simp only [List.length_append,List.length_cons,List.length_nil] at hlen hcl ⊢; omega)
 | k+1,i,hk=>by
  have hi:i<cs.length:=by omega
  have hci:=hcs cs[i] (BW hi)
  refine UK ?_
  unfold M3
  rw [if_pos (decide_eq_true (by omega)),if_pos (by omega),if_pos (by omega),Ad,AT hi,I6 (by omega) (by omega),Z,if_pos (by simp; omega),AQ (by omega)]
  have:=tP hcs hcl hm h6 hc h70 k (i+1) (by omega)
  rw [List.take_succ_eq_append_getElem hi,List.map_append] at this
  exact this
theorem rn {g:Ag} (hm:∀ m∈g.2.1,0<=m.1/\m.1<10):∀ (k i:Nat) (l:List UInt8),i+k=g.2.1.length->g.2.1.length<=10->l.length<=20000+10*i->Ga (E3 l) (i:Int) g=some (E3 (l++(g.2.1.drop i).flatMap o5))
 | 0,i,l,hk,h6,hl=>by
  refine UB ?_
  unfold My
  rw [if_neg (by rw [decide_eq_false (by omega)]; simp),List.drop_eq_nil_of_le (by omega)]
  simp
 | k+1,i,l,hk,h6,hl=>by
  have hi:i<g.2.1.length:=by omega
  have hid:=hm g.2.1[i] (BW hi)
  refine UB ?_
  unfold My
  rw [if_pos (decide_eq_true (by omega)),if_pos (by omega),if_pos (by omega),Ad,AT hi,Am hi,AQ (by omega),List.flatMap_cons]
  by_cases hs:g.2.1[i].2.2.2.2.2.1=true
  ·have s7:(⟨#[115,101,114,118,101,115,32]⟩:ByteArray)=E3 [115,101,114,118,101,115,32]:=rfl
   have s1:(⟨#[10]⟩:ByteArray)=E3 [10]:=rfl
   have hq:=Ou hid
   rw [if_pos hs,s7,s1,if_pos (by rw [Ac,Ac]; simp only [List.length_cons,List.length_nil]; omega),if_pos (by omega),if_pos (by omega),rl hid,Z,<- C2,if_pos (by rw [Ac,Ac,hq]; simp only [List.length_append,List.length_cons,List.length_nil]; omega),<- C2,
    if_pos (by rw [Ac,Ac]; simp only [List.length_append,hq,List.length_cons,List.length_nil]; omega),<- C2]
   rw [rn hm k (i+1) _ (by omega) h6 (by simp only [List.length_append,hq,List.length_cons,List.length_nil]; omega)]
   unfold o5
   rw [if_pos hs]
   simp
  ·rw [if_neg hs,rn hm k (i+1) l (by omega) h6 (by omega)]
   unfold o5
   rw [if_neg hs]
   simp
theorem tQ {g:Ag} (hm:∀ m∈g.2.1,0<=m.1/\m.1<10) (h6:g.2.1.length<=10) (hc:∀ c∈g.2.2.2,SmC c) (h70:g.2.2.2.length<=70):∀ (k i:Nat) (l:List UInt8),i+k=g.2.2.2.length->l.length<=10000+40*i ->
  Dm (E3 l) (i:Int) g=some (E3 (l++(g.2.2.2.drop i).flatMap OK++g.2.1.flatMap o5))
 | 0,i,l,hk,hl=>by
  refine UC ?_
  unfold Mz
  rw [if_neg (by rw [decide_eq_false (by omega)]; simp),List.drop_eq_nil_of_le (by omega)]
  have:=rn hm g.2.1.length 0 l (by omega) h6 (by omega)
  refine Eq.trans this ?_
  simp
 | k+1,i,l,hk,hl=>by
  have hi:i<g.2.2.2.length:=by omega
  have hsm:=hc g.2.2.2[i] (BW hi)
  have hlen:=tO hsm
  obtain ⟨o1,o2,o3⟩:=hsm
  rw [D6] at o2 o3
  have ih:=fun l' h=>tQ hm h6 hc h70 k (i+1) l' (by omega) h
  have s4:(⟨#[112,117,116,32]⟩:ByteArray)=E3 [112,117,116,32]:=rfl
  have g4:(⟨#[103,101,116,32]⟩:ByteArray)=E3 [103,101,116,32]:=rfl
  have s1:(⟨#[10]⟩:ByteArray)=E3 [10]:=rfl
  have b1:(⟨#[32]⟩:ByteArray)=E3 [32]:=rfl
  have none':∀ l' b,l'.length<=10000+40*(i+1)->b=false->Ih (E3 l') (i:Int) b g g.2.2.2[i]=some (E3 (l'++(g.2.2.2.drop (i+1)).flatMap OK++g.2.1.flatMap o5)):=fun l' b h hb=>by
   refine UA ?_
   unfold Mx
   rw [if_neg (by rw [hb]; simp),AQ (by omega),ih l' h]
  refine UC ?_
  unfold Mz
  rw [if_pos (decide_eq_true (by omega)),if_pos (by omega),if_pos (by omega),Ad,AT hi,Am hi,List.flatMap_cons]
  by_cases hd:0<=g.2.2.2[i].2.2.2.2.1
  ·rw [if_pos (decide_eq_true hd)]
   by_cases h1:g.2.2.2[i].1=1
   ·have hct:OK g.2.2.2[i]=[112,117,116,32]++g.2.2.2[i].2.1.data.toList++[10]:=by unfold OK; rw [if_pos hd,if_pos h1]
    rw [if_pos (by simp [h1]),s4,s1,if_pos (by rw [Ac,Ac]; simp only [List.length_cons,List.length_nil]; omega),IB,IB,if_pos (by rw [Ac,D6]; simp only [E2,List.length_append,List.length_cons,List.length_nil]; omega),IB,
     if_pos (by rw [Ac,Ac]; simp only [E2,List.length_append,List.length_cons,List.length_nil]; omega),E2,E2]
    refine M0 ?_
    unfold Ik
    rw [if_pos (decide_eq_true hd),none' _ _ (by simp only [List.length_append,List.length_cons,List.length_nil]; omega) (by rw [h1]; rfl),hct]
    simp
   ·have h2:g.2.2.2[i].1=2:=by omega
    have hct:OK g.2.2.2[i]=[103,101,116,32]++g.2.2.2[i].2.1.data.toList++[32]++g.2.2.2[i].2.2.2.2.2.2.2.2.data.toList++[10]:=by unfold OK; rw [if_pos hd,if_neg h1]
    rw [if_neg (by simpa using h1)]
    refine M0 ?_
    unfold Ik
    rw [if_pos (decide_eq_true hd)]
    refine UA ?_
    unfold Mx
    rw [if_pos (by rw [h2]; rfl),g4,s1,b1,if_pos (by rw [Ac,Ac]; simp only [List.length_cons,List.length_nil]; omega),IB,if_pos (by rw [Ac,D6]; simp only [E2,List.length_append,List.length_cons,List.length_nil]; omega),IB,
     if_pos (by rw [Ac,Ac]; simp only [E2,List.length_append,List.length_cons,List.length_nil]; omega),IB,if_pos (by rw [Ac,D6]; simp only [E2,List.length_append,List.length_cons,List.length_nil]; omega),IB,
     if_pos (by rw [Ac,Ac]; simp only [E2,List.length_append,List.length_cons,List.length_nil]; omega),IB,AQ (by omega)]
    simp only [E2]
    rw [ih _ (by simp only [List.length_append,List.length_cons,List.length_nil]; omega),hct]
    simp
  ·have:OK g.2.2.2[i]=[]:=by unfold OK; rw [if_neg hd]
   rw [if_neg (by rw [decide_eq_false (by omega)]; simp)]
   refine M0 ?_
   unfold Ik
   rw [if_neg (by rw [decide_eq_false (by omega)]; simp),none' _ _ (by omega) rfl,this]
   simp
theorem tR {g:Ag} {cs:List Int} (hcs:∀ c∈cs,0<=c/\c<10) (hcl:cs.length<=70):∀ (k i:Nat) (l:List UInt8),i+k=cs.length->1<=i->l.length<=2*i->∀ r,Ij cs (E3 (l++(cs.drop i).flatMap fun n=>32::Go.Lib.itoa n)) g=some r->Ee cs (E3 l) (i:Int) g=some r
 | 0,i,l,hk,h1,hl,r,h=>by
  rw [List.drop_eq_nil_of_le (by omega)] at h
  refine Il ?_
  unfold Gb
  rw [if_neg (by rw [decide_eq_false (by omega)]; simp)]
  simpa using h
 | k+1,i,l,hk,h1,hl,r,h=>by
  have hi:i<cs.length:=by omega
  have hci:=hcs cs[i] (BW hi)
  have hq:=Ou hci
  have b1:(⟨#[32]⟩:ByteArray)=E3 [32]:=rfl
  rw [Am hi,List.flatMap_cons] at h
  refine Il ?_
  unfold Gb
  rw [if_pos (decide_eq_true (by omega)),if_pos (decide_eq_true (by omega)),b1,if_pos (by rw [Ac,Ac]; simp only [List.length_cons,List.length_nil]; omega),if_pos (by omega),if_pos (by omega),Ad,AT hi,rl hci,Z,<- C2,
   if_pos (by rw [Ac,Ac,hq]; simp only [List.length_append,List.length_cons,List.length_nil]; omega),<- C2,AQ (by omega)]
  refine tR hcs hcl k (i+1) _ (by omega) (by omega) (by simp only [List.length_append,hq,List.length_cons,List.length_nil]; omega) r ?_
  rw [<- h]
  simp
theorem zB {g:Ag} {cs:List Int} (hcs:∀ c∈cs,0<=c/\c<10) (hcl:cs.length<=70) (hm:∀ m∈g.2.1,0<=m.1/\m.1<10) (h6:g.2.1.length<=10) (hc:∀ c∈g.2.2.2,SmC c) (h70:g.2.2.2.length<=70) :
  Ee cs ⟨#[]⟩ 0 g=some (E3 (zA g cs)):=by
 have L2:∀ l,l.length<=10000->Dm (E3 l) 0 g=some (E3 (l++g.2.2.2.flatMap OK++g.2.1.flatMap o5)):=fun l hl=>by
  have:=tQ hm h6 hc h70 g.2.2.2.length 0 l (by omega) (by omega)
  refine Eq.trans this ?_
  simp
 have hlen:=wG hcs
 have J1:Ij cs (E3 (si cs)) g=some (E3 (zA g cs)):=iD (by
  unfold T_ zA AAg
  by_cases h0:cs.length=0
  ·have e:cs=[]:=DV.1 h0
   rw [if_neg (by rw [decide_eq_false (by omega)]; simp),if_pos h0,e]
   exact L2 [] (by simp)
  ·rw [if_pos (decide_eq_true (by omega)),if_neg h0,show (⟨#[10]⟩:ByteArray)=E3 [10] from rfl,if_pos (by rw [Ac,Ac]; simp only [List.length_cons,List.length_nil]; omega),<- C2]
   exact L2 _ (by simp only [List.length_append,List.length_cons,List.length_nil]; omega))
 cases hq:cs with
 | nil =>
  rw [hq] at J1
  refine Il ?_
  unfold Gb
  rw [if_neg (by simp)]
  exact J1
 | cons c r =>
  rw [hq] at J1 hcs hcl
  have hci:=hcs c (by simp)
  have hqq:=Ou hci
  refine Il ?_
  unfold Gb
  rw [if_pos (by simp<;>omega),if_neg (by simp),if_pos (by omega),if_pos (by simp<;>omega),show (c::r).getD (0:Int).toNat 0=c from rfl,rl hci,Z,show (⟨#[]⟩:ByteArray)=E3 [] from rfl,if_pos (by rw [Ac,Ac,hqq]; decide),<- C2,List.nil_append,show IntKind.i64.wrap (0+1)=((1:Nat):Int) from rfl]
  exact tR hcs hcl r.length 1 (Go.Lib.itoa c) (by simp only [List.length_cons]; omega) (by omega) (by omega) _ (by
   rw [List.drop_succ_cons,List.drop_zero]
   exact J1)
theorem nM {g:Ag} {at_:Int} {m:AD} {node:Int}:∀ (k:Nat) (e:Int),(HZ g at_ m node k e).1=0\/(HZ g at_ m node k e).1=1
 | 0,e=>.inr rfl
 | k+1,e=>by
  unfold HZ
  split
  ·exact nM k (e+1)
  ·split
   ·exact .inl rfl
   ·exact .inr rfl
theorem AAh (g:Ag) (at_:Int) (e:BN):(ot g at_ e).1=0\/(ot g at_ e).1=1:=by
 unfold ot
 split
 ·unfold KI
  split
  ·exact .inl rfl
  ·exact .inr rfl
 ·split
  ·exact nM _ _
  ·split
   ·exact .inl rfl
   ·unfold dY
    (repeat' split)<;>first | exact .inl rfl | exact .inr rfl
theorem ro:∀ (es:List BN) (n:Nat) (g:Ag) (cs:List Int),(∀ c∈cs,0<=c/\c<10)->∀ c∈(Gv n es g cs).2,0<=c/\c<10
 | [],_,_,_,h=>h
 | e::es,n,g,cs,h=>ro es (n+1) _ _ fun c hc=>by
  rcases CZ.1 hc with hc | hc
  ·exact h c hc
  ·rw [B5.1 hc]
   rcases AAh g (n:Int) e with h | h<;>rw [h]<;>omega
def ACr (n:Int):List UInt8:=[102,97,117,108,116,32]++Go.Lib.itoa n++[10]
def j4 (x:ByteArray):ByteArray :=
 if (BB x).2.2=0 then E3 (zA (Gv 0 (BB x).2.1 (Au (BB x).1) []).1 (Gv 0 (BB x).2.1 (Au (BB x).1) []).2) else E3 (ACr (BB x).2.2)
theorem tS {x:ByteArray} (h:(BB x).2.2=0):(∀ c∈(Gv 0 (BB x).2.1 (Au (BB x).1) []).2,0<=c/\c<10)/\(Gv 0 (BB x).2.1 (Au (BB x).1) []).2.length<=70/\(∀ m∈(Gv 0 (BB x).2.1 (Au (BB x).1) []).1.2.1,0<=m.1/\m.1<10) /\
  (Gv 0 (BB x).2.1 (Au (BB x).1) []).1.2.1.length<=10/\(∀ c∈(Gv 0 (BB x).2.1 (Au (BB x).1) []).1.2.2.2,SmC c)/\(Gv 0 (BB x).2.1 (Au (BB x).1) []).1.2.2.2.length<=70:=by
 obtain ⟨hv,hl,he⟩:=mn h
 obtain ⟨r1,_,r3⟩:=pC (BB x).2.1 0 (Au (BB x).1) [] (cf hv) (by omega) he
 have hs:=ru.run (BB x).2.1 0 (Au (BB x).1) [] (cf hv) (ru.new _) (by omega) he
 refine ⟨ro _ 0 _ [] (fun c hc=>by cases hc),by rw [r3]; simpa using hl,fun m hm=>?_,by rw [r1.six]; omega,hs.calls,by have:=r1.clen; omega⟩
 obtain ⟨i,hi,rfl⟩:=EK hm
 have h6:=r1.six
 have:=(r1.mem i (by omega)).2
 unfold Co at this
 rw [AT hi] at this
 omega
theorem j5 (x:ByteArray) (hx:x.size<=1048576):R9 x=some (j4 x):=qh (by
 unfold ag j4
 rw [cL x hx,Z]
 by_cases h0:(BB x).2.2=0
 ·obtain ⟨hv,hl,he⟩:=mn h0
  obtain ⟨f1,f2,f3,f4,f5,f6⟩:=tS h0
  rw [if_neg (by simp [h0]),if_pos h0,jt hv hl he,Z]
  exact tP f1 f2 f3 f4 f5 f6 (Gv 0 (BB x).2.1 (Au (BB x).1) []).2.length 0 (by omega)
 ·have hcode:=nL x
  have hlen:=wF (n:=(BB x).2.2) (by omega)
  rw [if_pos (by simpa using h0),if_neg h0,I6 (by omega) (by omega),Z,show (⟨#[102,97,117,108,116,32]⟩:ByteArray)=E3 [102,97,117,108,116,32] from rfl,show (⟨#[10]⟩:ByteArray)=E3 [10] from rfl,
   if_pos (by rw [Ac,Ac]; simp only [List.length_cons,List.length_nil]; omega),<- C2,if_pos (by rw [Ac,Ac]; simp only [List.length_append,List.length_cons,List.length_nil]; omega),<- C2]
  rfl)
theorem j6 (x:ByteArray) (hx:x.size<=1048576):R8 x=some (j4 x):=qg (by
 unfold af j4
 rw [cK x hx,Z]
 by_cases h0:(BB x).2.2=0
 ·obtain ⟨hv,hl,he⟩:=mn h0
  obtain ⟨f1,f2,f3,f4,f5,f6⟩:=tS h0
  rw [if_neg (by simp [h0]),if_pos h0,jl hv hl he,Z]
  exact zB f1 f2 f3 f4 f5 f6
 ·have hcode:=nL x
  have hlen:=wF (n:=(BB x).2.2) (by omega)
  have hd:C_ (BB x).2.2=some (E3 (Go.Lib.itoa (BB x).2.2)):=by
   by_cases hn:(BB x).2.2=-1
   ·rw [hn]; exact gA
   ·obtain ⟨q,hq⟩:∃ q:Nat,(BB x).2.2=(q:Int):=⟨(BB x).2.2.toNat,by omega⟩
    rw [hq]
    exact Nh (by omega)
  rw [if_pos (by simpa using h0),if_neg h0,hd,Z,show (⟨#[102,97,117,108,116,32]⟩:ByteArray)=E3 [102,97,117,108,116,32] from rfl,show (⟨#[10]⟩:ByteArray)=E3 [10] from rfl,
   if_pos (by rw [Ac,Ac]; simp only [List.length_cons,List.length_nil]; omega),<- C2,if_pos (by rw [Ac,Ac]; simp only [List.length_append,List.length_cons,List.length_nil]; omega),<- C2]
  rfl)
theorem gH (x) (hx:Kd.ok .str x):Nw x=some true:=ZY (by
 unfold Nx
 by_cases h:x.size>1048576
 ·rw [if_pos (by simpa using (by omega:(x.size:Int)>1048576))]
 ·rw [if_neg (by simpa using (by omega:¬ (x.size:Int)>1048576)),j6 x (by omega),Z,j5 x (by omega),Z,if_neg (by simp)])

theorem AAi {P:Program} {c:List Char} {rest:List (List Char)} (h:behindMainWord (wordsSigns P.initOrder.toList)=c::rest) (h1:(c == "gc".toList||c == "spec".toList)=false) (h2:(c == "cut".toList||(c == "finals".toList&&rest.head? == some "cut".toList))=true):P.make=some .cut:=by
 unfold Program.make
 rw [h]
 simp only [h1,h2]
 rfl
theorem AAj {P:Program} {c:List Char} {rest:List (List Char)} (h:behindMainWord (wordsSigns P.initOrder.toList)=c::rest) (h1:((stripLifts liftWords (c::rest)).2.head? == some "cut".toList)=true) (h2:(stripLifts liftWords (c::rest)).1=[])
  (h3:P.laysLater=false) (h4:P.bearsReflect=false) (h5:P.doorFits []=true):P.mayEnter=true:=by
 unfold Program.mayEnter
 rw [h]
 simp only [h1,h2,h3,h4,h5]
 simp
theorem AAk {P:Program} {c:List Char} {rest:List (List Char)} (h:behindMainWord (wordsSigns P.initOrder.toList)=c::rest) (h1:(c == "carried".toList)=false) (h2:(stripLifts liftWords (c::rest)).1=[]):P.liftsFinal=false:=by
 have e:(some c==some "carried".toList)=false:=h1
 unfold Program.liftsFinal Program.headLifts
 rw [h]
 simp only [List.head?_cons,e,h2]
 simp
theorem LZ {a b:Bool} (h:a=true) (g:b=true):(a&&b)=true:=by rw [h,g]; rfl
theorem AAl {α:Type} [BEq α] [LawfulBEq α] {a b:α} (h:a=b):(a==b)=true:=by rw [h]; exact beq_self_eq_true b
end Go.Proofs.YtfcgblnlopemkaaGreatDoor.Core

namespace Go.Proofs.YtfcgblnlopemkaaGreatDoor.Core
open Go
set_option maxRecDepth 100000
def ioL:List Nat:=[104,97,114,110,101,115,115,32,101,102,54,97,99,102,53,100,55,98,56,98,98,102,102,98,99,98,51,57,98,55,99,56,55,101,48,97,99,97,97,52,98,98,50,100,97,98,101,97,101,52,53,56,55,49,98,55,97,98,54,52,57,48,101,54,49,49,54,57,56,101,101,52,32,99,117,116,32,97,116,32,108,111,111,112,46,101,120,97,109,112,108,101,47,103,48,48,49,56,48,47,108,97,119,115,46,70,110,69,120,97,99,116,67,111,110,115,111,108,101,32,108,111,111,112,46,101,120,97,109,112,108,101,47,103,48,48,49,56,48,47,108,97,119,115,46,70,110,83,99,114,105,112,116]
def ioC:List Nat:=[99,117,116]
def ioW:List (List Nat):=[[97,116],[108,111,111,112,46,101,120,97,109,112,108,101,47,103,48,48,49,56,48,47,108,97,119,115,46,70,110,69,120,97,99,116,67,111,110,115,111,108,101],[108,111,111,112,46,101,120,97,109,112,108,101,47,103,48,48,49,56,48,47,108,97,119,115,46,70,110,83,99,114,105,112,116]]
theorem io:Tryz.prog.initOrder.toList=ioL.map Char.ofNat:=(congrArg String.toList (show Tryz.prog.initOrder=String.ofList (ioL.map Char.ofNat) from by kernel_rfl)).trans String.toList_ofList
theorem iow:behindMainWord (wordsSigns Tryz.prog.initOrder.toList)=ioC.map Char.ofNat::ioW.map fun w=>w.map Char.ofNat:=by
 rw [io]
 kernel_rfl
theorem ADY:Tryz.prog.make=some .cut:=AAi iow (by kernel_rfl) (by kernel_rfl)
theorem enters:Tryz.prog.mayEnter=true:=AAj iow (by kernel_rfl) (by kernel_rfl) (by kernel_rfl) (by kernel_rfl) (by kernel_rfl)
theorem ABx:Tryz.prog.liftsFinal=false:=AAk iow (by kernel_rfl) (by kernel_rfl)
theorem wH:laidOutB Tryz.prog=true:=by kernel_rfl
theorem xD:mapsRowed Tryz.prog=true:=by kernel_rfl
theorem ACs:Tryz.prog.stopsHeard=true:=by kernel_rfl
end Go.Proofs.YtfcgblnlopemkaaGreatDoor.Core
