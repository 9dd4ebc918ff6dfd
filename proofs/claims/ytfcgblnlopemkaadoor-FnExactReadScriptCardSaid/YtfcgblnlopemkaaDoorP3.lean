/- Texts of the proof, packed: part 4. -/
import Derived.Test.YtfcgblnlopemkaaDoorP2
import Derived.JoinedOf
import Derived.Test.YtfcgblnlopemkaaDoorRows
import Derived.ProofKit
set_option linter.unusedVariables false
set_option linter.unusedSimpArgs false
namespace Go.Proofs.YtfcgblnlopemkaaDoor.Core
open Go
def Kd.small:(K:Kd)->K.T->Prop
 | .slice e,xs=>xs.length<=68719476736/\∀ x∈xs,Kd.small e x
 | .pair a b,x=>a.small x.1/\b.small x.2
 | .int _,_=>True
 | .bool,_=>True
 | .str,_=>True
 | .own _ _,_=>True
 | .ref _,_=>True
 | .fun _,_=>True
 | .clo _ _,_=>True
def Xv (K:Kd) (f:K.T->K.T->Option Bool):Prop:=∀ x,K.small x->f x x=some true
theorem Sa {α:Type} {x:List α} {d:α} {L:Int->Option Bool} {f:α->α->Option Bool} (hf:∀ a∈x,f a a=some true) (hn:x.length<=68719476736)
  (h:∀ i r,(if decide (i<(x.length:Int))=true then (if 0<=i then (if i<(x.length:Int) then (if 0<=i then (if i<(x.length:Int) then ((f (x.getD i.toNat d) (x.getD i.toNat d)).bind fun y=>(if (!y)=true then some false else L (IntKind.i64.wrap (i+(1:Int))))) else none) else none) else none) else none) else some true)=some r->L i=some r) :
  L 0=some true :=
 VU (n:=x.length) (P:=fun i=>L (i:Int)=some true) (by
  refine h _ _ ?_
  simp) (fun i hi ih=>by
  refine h _ _ ?_
  simp only [show ((i:Int)<(x.length:Int)) from by omega,decide_true,if_true,show (0:Int)<=(i:Int) from by omega,BG,hf _ (DS hi▸MC _),U,AZ (show i<9223372036854775807 by omega)]
  simpa using ih) 0 (by omega)
theorem V5 {e:Kd} {f:e.T->e.T->Option Bool} (hf:Xv e f) {d:e.T} {x:List e.T} (hx:(Kd.slice e).small x) {L:Int->Option Bool}
  (h:∀ i r,(if decide (i<(x.length:Int))=true then (if 0<=i then (if i<(x.length:Int) then (if 0<=i then (if i<(x.length:Int) then ((f (x.getD i.toNat d) (x.getD i.toNat d)).bind fun y=>(if (!y)=true then some false else L (IntKind.i64.wrap (i+(1:Int))))) else none) else none) else none) else none) else some true)=some r->L i=some r) :
  (if ((x.length:Int) != (x.length:Int))=true then some false else L 0)=some true:=by
 rw [if_neg (by simp)]
 exact Sa (fun a ha=>hf a (hx.2 a ha)) hx.1 h
theorem Yx {α:Type} {c:α->α->Bool} (hc:∀ a,c a a=false) {d:α} {x:List α} (hx:x.length<=68719476736) {L:Int->Option Bool}
  (h:∀ i r,(if decide (i<(x.length:Int))=true then (if 0<=i then (if i<(x.length:Int) then (if 0<=i then (if i<(x.length:Int) then (if c (x.getD i.toNat d) (x.getD i.toNat d)=true then some false else L (IntKind.i64.wrap (i+(1:Int)))) else none) else none) else none) else none) else some true)=some r->L i=some r) :
  (if ((x.length:Int) != (x.length:Int))=true then some false else L 0)=some true:=by
 rw [if_neg (by simp)]
 refine Sa (d:=d) (f:=fun a b=>some (!c a b)) (fun a _=>by rw [hc]; rfl) hx (fun i r hr=>h i r ?_)
 simpa only [U,Bool.not_not] using hr

theorem Sb:Xv (.slice (.int .i64)) Ji:=fun x hx=>S0 (Yx (c:=fun a b:Int=>a != b) (fun a=>by simp [UF]) hx.1 (L:=fun i=>Ea x x i) (fun i r h=>Pr h))
theorem Q1:Xv (.slice (.slice (.int .i64))) Fe:=fun x hx=>SK (V5 Sb hx (L:=fun i=>Dt x x i) (fun i r h=>OF h))
theorem Q2:Xv AD II:=fun x hx=>SO (by
 unfold Lt
 simp [UF])
theorem P9:Xv (.slice AD) Es:=fun x hx=>Qo (V5 Q2 hx (L:=fun i=>DK x x i) (fun i r h=>NE h))

theorem DW (a b c:Int):CF a b c=some (decide (b<=a)&&decide (a<=c)):=T6 (by
 unfold Of
 by_cases h:b<=a<;>simp [h])
theorem B8 (a b c:Int):BY a b c=some (decide (b<=a)&&decide (a<=c)):=SY (by
 unfold L4
 by_cases h:b<=a<;>simp [h])

theorem Bb {α:Type} {x:List α} {i:Nat} (h:i<x.length):x.drop i=x[i]::x.drop (i+1):=List.drop_eq_getElem_cons h

theorem Q3 k:Kt k=some (decide (1<=(k.size:Int))&&decide ((k.size:Int)<=12)):=T9 (by simp [Ot,B8])
theorem KX n:GX n=some (decide (1<=n)&&decide (n<=6)):=S5 (by simp [Mv,B8])
def Xw (v:ByteArray):Bool:=v.toList==(⟨#[]⟩:ByteArray).toList
theorem VV (v:ByteArray):(v.toList==(⟨#[]⟩:ByteArray).toList)=Xw v:=rfl
def QW (op:Int) (k v:ByteArray):Bool :=
 (decide (op=1)||decide (op=2))&&(decide (1<=(k.size:Int))&&decide ((k.size:Int)<=12))&&decide ((v.size:Int)<=20)&&(decide (op=1)||Xw v)
def T_ (x:Int×Int×Int×Int×ByteArray×ByteArray):Bool :=
 decide (1<=x.1)&&decide (x.1<=6)&&(decide (1<=x.2.1)&&decide (x.2.1<=6))&&decide (0<=x.2.2.1) &&
  (if x.1=1 then QW x.2.2.2.1 x.2.2.2.2.1 x.2.2.2.2.2 else decide (x.2.2.2.1=0)&&Xw x.2.2.2.2.1&&Xw x.2.2.2.2.2)
theorem Q4 a k v:Kr a 0 k v=some (QW a k v):=T8 (by
 have w:∀ b,HL a v b=some (decide (a=1)||Xw v):=fun b=>Q0 (by
  unfold LD
  rw [VV]
  by_cases h:a=1<;>simp [h])
 unfold Or QW
 have Zz:decide ((v.size:Int)>20)=!decide ((v.size:Int)<=20):=by
  by_cases h:(v.size:Int)<=20<;>simp [h]
  omega
 simp only [Zz,B8,Q3,U,w]
 by_cases h1:a=1
 ·by_cases h2:1<=(k.size:Int)<;>by_cases h3:(k.size:Int)<=12<;>by_cases h4:(v.size:Int)<=20<;>simp [h1,h2,h3,h4]
 ·by_cases h1b:a=2
  ·by_cases h2:1<=(k.size:Int)<;>by_cases h3:(k.size:Int)<=12<;>by_cases h4:(v.size:Int)<=20<;>simp [h1b,h2,h3,h4]
  ·have:¬ (1<=a/\a<=2):=by omega
   by_cases h5:1<=a
   ·have:¬ a<=2:=by omega
    simp [h1,h1b,this]
   ·simp [h1,h1b,h5])
theorem Ou x:IN x=some (T_ x):=SX (by
 have w:∀ b,Fz b x=some (if x.1=1 then QW x.2.2.2.1 x.2.2.2.2.1 x.2.2.2.2.2 else decide (x.2.2.2.1=0)&&Xw x.2.2.2.2.1&&Xw x.2.2.2.2.2):=fun b=>Oq (by
  unfold JX
  simp only [VV]
  by_cases h:x.1=1
  ·simp [h,Q4]
  ·by_cases h2:x.2.2.2.1=0<;>rcases Bool.eq_false_or_eq_true (Xw x.2.2.2.2.1) with h3 | h3<;>simp [h,h2,h3])
 unfold L3 T_
 simp only [B8,KX,U,w]
 by_cases h1:1<=x.1<;>by_cases h2:x.1<=6<;>by_cases h3:1<=x.2.1<;>by_cases h4:x.2.1<=6<;>by_cases h5:0<=x.2.2.1<;>simp [h1,h2,h3,h4,h5]<;>omega)
theorem Ov x:IH x=some (T_ x):=SN (by
 have w:∀ b,Fm b x=some (if x.1=1 then QW x.2.2.2.1 x.2.2.2.2.1 x.2.2.2.2.2 else decide (x.2.2.2.1=0)&&Xw x.2.2.2.2.1&&Xw x.2.2.2.2.2):=fun b=>OX (by
  unfold JI QW
  simp only [VV]
  by_cases h:x.1=1
  ·simp only [DW,U]
   by_cases g1:x.2.2.2.1=1
   ·by_cases h2:1<=(x.2.2.2.2.1.size:Int)<;>by_cases h3:(x.2.2.2.2.1.size:Int)<=12<;>by_cases h4:(x.2.2.2.2.2.size:Int)<=20<;>simp [h,g1,h2,h3,h4]
   ·by_cases g2:x.2.2.2.1=2
    ·by_cases h2:1<=(x.2.2.2.2.1.size:Int)<;>by_cases h3:(x.2.2.2.2.1.size:Int)<=12<;>by_cases h4:(x.2.2.2.2.2.size:Int)<=20<;>simp [h,g2,h2,h3,h4]
    ·simp [h,g1,g2]
  ·by_cases h2:x.2.2.2.1=0<;>rcases Bool.eq_false_or_eq_true (Xw x.2.2.2.2.1) with h3 | h3<;>simp [h,h2,h3])
 unfold Ls T_
 simp only [DW,U,w]
 by_cases h1:1<=x.1<;>by_cases h2:x.1<=6<;>by_cases h3:1<=x.2.1<;>by_cases h4:x.2.1<=6<;>by_cases h5:0<=x.2.2.1<;>simp [h1,h2,h3,h4,h5]<;>omega)

def Yy (a:ByteArray×ByteArray×Int):Bool:=(decide (1<=(a.1.size:Int))&&decide ((a.1.size:Int)<=12))&&decide ((a.2.1.size:Int)<=20)&&(decide (1<=a.2.2)&&decide (a.2.2<=1000000000))
def TQ (x:List (ByteArray×ByteArray×Int)) (i:Nat):Nat->Bool
 | 0=>decide ((x.length:Int)<=12)
 | k+1=>Yy (x.getD i (AA,AA,0))&&(decide (i=0)||Op.bytesLess (x.getD (i-1) (AA,AA,0)).1.toList (x.getD i (AA,AA,0)).1.toList)&&TQ x (i+1) k
theorem Zz (n:Int):decide (n>20)=!decide (n<=20):=by
 by_cases h:n<=20<;>simp [h]
 omega

abbrev Ow:Type:=ByteArray×ByteArray×Int
def aZ (k:ByteArray) (b:Ow):Bool:=Op.bytesLess b.1.toList k.toList
def aN (k:ByteArray) (b:Ow):Bool:=!(Op.bytesLess b.1.toList k.toList||(b.1.toList==k.toList))
def aa (x:List Ow) (a:Ow):List Ow:=x.filter (aZ a.1)++[a]++x.filter (aN a.1)
def V6 (x:List Ow):Bool:=TQ x 0 x.length





theorem Q5 (x:List Int) (n:Int) (h:x.length<=maxLen):Kq x n=some (x.contains n):=T7 (by
 have hm:x.length<=9223372036854775807:=h
 unfold Om
 have:=VU (n:=x.length) (P:=fun i=>Ex x n (i:Int)=some ((x.drop i).contains n)) (LC (by
  unfold HK
  rw [if_neg (by simp),List.drop_length]
  rfl)) (fun i hi ih=>LC (by
  unfold HK
  simp only [show ((i:Int)<(x.length:Int)) from by omega,decide_true,if_true,show (0:Int)<=(i:Int) from by omega,BG,DS hi,AZ (show i<9223372036854775807 by omega)]
  rw [Bb hi,List.contains_cons,ih]
  by_cases e:x[i]=n
  ·subst e
   simp
  ·simp [e,Ne.symm e])) 0 (by omega)
 simpa using this)
theorem Zc (x:List Int) (i:Nat) (hi:i<x.length) (h:x.length<=maxLen):∃ r,DJ x x[i]=some r/\((r=(i:Int))↔x[i]∉x.take i):=by
 have hm:x.length<=9223372036854775807:=h
 have key:=VU (n:=i) (P:=fun k=>∃ r,Bk x x[i] (x.length:Int) (k:Int)=some r/\(k:Int)<=r/\((r=(i:Int))↔∀ m (hm:m<i),k<=m->x[m]≠x[i])) ⟨i,Cf (by
  unfold Bl
  simp only [show ((i:Int)<(x.length:Int)) from by omega,decide_true,if_true,show (0:Int)<=(i:Int) from by omega,BG,DS hi]
  simp),by omega,⟨fun _ m hm hk=>by omega,fun _=>rfl⟩⟩ (fun k hk ⟨r,hr,hkr,hiff⟩=>by
  have hk2:k<x.length:=by omega
  by_cases e:x[i]=x[k]
  ·refine ⟨k,Cf ?_,by omega,⟨fun he=>by omega,fun hall=>absurd e.symm (hall k hk (by omega))⟩⟩
   unfold Bl
   simp only [show ((k:Int)<(x.length:Int)) from by omega,decide_true,if_true,show (0:Int)<=(k:Int) from by omega,BG,DS hk2]
   rw [if_pos (by simpa using e)]
  ·refine ⟨r,Cf ?_,by omega,hiff.trans ⟨fun hall m hm hkm=>?_,fun hall m hm hkm=>hall m hm (by omega)⟩⟩
   ·unfold Bl
    simp only [show ((k:Int)<(x.length:Int)) from by omega,decide_true,if_true,show (0:Int)<=(k:Int) from by omega,BG,DS hk2,AZ (show k<9223372036854775807 by omega)]
    rw [if_neg (by simpa using e)]
    exact hr
   ·rcases As k m with h1 | h1
    ·exact hall m hm h1
    ·have:m=k:=by omega
     subst this
     exact fun h=>e h.symm) 0 (by omega)
 obtain ⟨r,hr,_,hiff⟩:=key
 refine ⟨r,Kv hr,hiff.trans ⟨fun hall hmem=>?_,fun hn m hm _ he=>hn ?_⟩⟩
 ·obtain ⟨m,hm,he⟩:=List.mem_take_iff_getElem.1 hmem
  exact hall m (by omega) (by omega) he
 ·exact List.mem_take_iff_getElem.2 ⟨m,by omega,he⟩
def GR (v:List Int) (i:Nat):Nat->Bool
 | 0=>true
 | k+1=>(decide (1<=v.getD i 0)&&decide (v.getD i 0<=6))&&!(v.take i).contains (v.getD i 0)&&GR v (i+1) k
def NX (v:List Int):Bool:=(decide (1<=(v.length:Int))&&decide ((v.length:Int)<=4))&&GR v 0 v.length
def At (x:List (List Int)) (n:Nat):List (List Int)->Bool
 | []=>decide (1<=(n:Int))&&decide ((n:Int)<=9)
 | v::r=>NX v&&At x n r
theorem Ox (v:List Int) (h:v.length<=maxLen):IJ v=some (NX v):=SP (by
 have hm:v.length<=9223372036854775807:=h
 unfold Lw NX
 simp only [DW,U]
 have:=VU (n:=v.length) (P:=fun i=>Dy v (i:Int)=some (GR v i (v.length-i))) (JJ (by
  unfold Fn
  rw [if_neg (by simp),Nat.sub_self]
  rfl)) (fun i hi ih=>JJ (by
  unfold Fn
  have e:v.length-i=(v.length-(i+1))+1:=by omega
  rw [e,GR]
  simp only [show ((i:Int)<(v.length:Int)) from by omega,show ((i:Int)<=(v.length:Int)) from by omega,decide_true,if_true,show (0:Int)<=(i:Int) from by omega,BG,DW,U,AZ (show i<9223372036854775807 by omega),ih,Int.toNat_zero,List.drop_zero,Int.le_refl,
   Q5 (v.take i) _ (by rw [List.length_take]; omega)]
  generalize (decide (1<=v.getD i 0)&&decide (v.getD i 0<=6))=a
  generalize (v.take i).contains (v.getD i 0)=b
  cases a<;>cases b<;>simp)) 0 (by omega)
 simp only [Int.ofNat_zero,Nat.sub_zero] at this
 generalize (decide (1<=(v.length:Int))&&decide ((v.length:Int)<=4))=a
 cases a
 ·simp
 ·simpa using this)
theorem Oy (x:List (List Int)) (h:x.length<=maxLen) (ho:∀ a∈x,a.length<=maxLen):Fg x=some (At x x.length x):=SM (by
 have hm:x.length<=9223372036854775807:=h
 unfold Lr
 exact VU (n:=x.length) (P:=fun i=>Dx x (i:Int)=some (At x x.length (x.drop i))) (JG (by
  unfold Fk
  rw [if_neg (by simp),List.drop_length,DW]
  rfl)) (fun i hi ih=>JG (by
  unfold Fk
  simp only [show ((i:Int)<(x.length:Int)) from by omega,decide_true,if_true,show (0:Int)<=(i:Int) from by omega,BG,DS hi,Ox x[i] (ho _ (MC _)),U,AZ (show i<9223372036854775807 by omega),ih]
  rw [Bb hi,At]
  generalize NX x[i]=a
  cases a<;>simp)) 0 (by omega))
theorem Oz (x:List (List Int)) (h:x.length<=maxLen) (ho:∀ a∈x,a.length<=maxLen):Fh x=some (At x x.length x):=SW (by
 have hm:x.length<=9223372036854775807:=h
 unfold L0
 exact VU (n:=x.length) (P:=fun i=>D6 x x (x.length:Int) (i:Int)=some (At x x.length (x.drop i))) (JW (by
  unfold Fy
  rw [if_neg (by simp),List.drop_length,B8]
  rfl)) (fun i hi ih=>JW (by
  unfold Fy
  simp only [show ((i:Int)<(x.length:Int)) from by omega,decide_true,if_true,show (0:Int)<=(i:Int) from by omega,BG,DS hi]
  rw [Bb hi,At]
  have hv:=ho x[i] (MC _)
  generalize x[i]=v at hv
  have hvm:v.length<=9223372036854775807:=hv
  have wj:Fw x v x (x.length:Int) (i:Int)=some ((decide (1<=(v.length:Int))&&decide ((v.length:Int)<=4))&&At x x.length (x.drop (i+1))):=Oo (by
   unfold JU
   rw [B8,U,AZ (show i<9223372036854775807 by omega),ih]
   generalize (decide (1<=(v.length:Int))&&decide ((v.length:Int)<=4))=a
   cases a<;>simp)
  have:=VU (n:=v.length) (P:=fun j=>D5 x v x (x.length:Int) (i:Int) v (v.length:Int) (j:Int)=some (GR v j (v.length-j)&&((decide (1<=(v.length:Int))&&decide ((v.length:Int)<=4))&&At x x.length (x.drop (i+1))))) (JV (by
   unfold Fx
   rw [if_neg (by simp),Nat.sub_self,wj]
   rfl)) (fun j hj ihj=>JV (by
   unfold Fx
   have e:v.length-j=(v.length-(j+1))+1:=by omega
   obtain ⟨r,hr,hiff⟩:=Zc v j hj hv
   rw [e,GR]
   simp only [show ((j:Int)<(v.length:Int)) from by omega,decide_true,if_true,show (0:Int)<=(j:Int) from by omega,BG,KX,U,AZ (show j<9223372036854775807 by omega),ihj,DS hj,hr]
   have hb:(r != (j:Int))=(v.take j).contains v[j]:=by
    by_cases e2:r=(j:Int)
    ·have:=hiff.1 e2
     simp [e2,this]
    ·have:v[j]∈v.take j:=Classical.byContradiction fun hn=>e2 (hiff.2 hn)
     simp [e2,this]
   rw [hb]
   generalize (decide (1<=v[j])&&decide (v[j]<=6))=a
   generalize (v.take j).contains v[j]=b
   cases a<;>cases b<;>simp)) 0 (by omega)
  simp only [Int.ofNat_zero,Nat.sub_zero] at this
  unfold NX
  refine Eq.trans this ?_
  congr 1
  generalize GR v 0 v.length=a
  generalize (decide (1<=(v.length:Int))&&decide ((v.length:Int)<=4))=b
  cases a<;>cases b<;>simp)) 0 (by omega))

abbrev Xx:Type:=Int×Int×Int×(ByteArray×ByteArray×Int)×List Int
abbrev MP:Type:=Int×Int×Bool×Bool×Bool×Bool×List Int×List (ByteArray×ByteArray×Int)×Int×Xx
def Zd (t:Xx):Bool:=(t.1==0)&&(t.2.1==0)&&(t.2.2.1==0)&&UF (.pair .str (.pair .str (.int .i64))) t.2.2.2.1 (AA,AA,(0:Int))&&((t.2.2.2.2.length:Int)==0)
def Xy (t:Xx) (serves:Bool):Bool:=(t.1==1||t.1==2)&&serves&&(decide (0<=t.2.1)&&decide (t.2.1<=1000))&&(decide (1<=t.2.2.1)&&decide (t.2.2.1<=900))

abbrev Ze:Type:=Int×Int×Int×Int×Int×List (ByteArray×ByteArray×Int)

def aT (v:List Int):Prop:=(∀ a∈v,1<=a/\a<=6)/\v.Pairwise (· < ·)
structure ad (m:MP):Prop where
 id:1<=m.1/\m.1<=6
 ep:1<=m.2.1/\m.2.1<=9
 serves:m.2.2.2.2.2.1=true->m.2.2.2.1=true/\m.2.2.2.2.1=true/\m.2.2.2.2.2.2.1=[]
 fell:m.2.2.1=true->m.2.2.2.1=false/\m.2.2.2.2.1=false
 waits:aT m.2.2.2.2.2.2.1
 left:aT m.2.2.2.2.2.2.2.2.2.2.2.2.2
 items:V6 m.2.2.2.2.2.2.2.1=true
 count:0<=m.2.2.2.2.2.2.2.2.1/\m.2.2.2.2.2.2.2.2.1<=900
 task:Zd m.2.2.2.2.2.2.2.2.2=true\/Xy m.2.2.2.2.2.2.2.2.2 m.2.2.2.2.2.1=true

structure Zf (views:List (List Int)):Prop where
 ok:At views views.length views=true
theorem Jo {n:Nat}:∀ {l:List (List Int)} {x:List (List Int)},At x n l=true↔(∀ v∈l,NX v=true)/\1<=n/\n<=9
 | [],x=>by simp [At]; omega
 | v::l,x=>by
  rw [At,J,Jo]
  simp [and_assoc]
theorem Zf.len {views:List (List Int)} (h:Zf views):1<=views.length/\views.length<=9:=(Jo.1 h.ok).2
theorem Zf.view {views:List (List Int)} (h:Zf views) {v:List Int} (hv:v∈views):1<=v.length/\v.length<=4:=by
 have:=(Jo.1 h.ok).1 v hv
 unfold NX at this
 simp only [J,decide_eq_true_eq] at this
 omega

structure ae (x:Ze):Prop where
 kind:1<=x.1/\x.1<=8
 frm:1<=x.2.1/\x.2.1<=6
 to:1<=x.2.2.1/\x.2.2.1<=6
 ep:1<=x.2.2.2.1/\x.2.2.2.1<=9
 num:0<=x.2.2.2.2.1/\x.2.2.2.2.1<=1000000000
 items:V6 x.2.2.2.2.2=true
 shape:if x.1=2\/x.1=3 then True else if x.1=5 then x.2.2.2.2.2.length=1 else x.2.2.2.2.2=[]

def Z0:MP:=((0:Int),(0:Int),false,false,false,false,([]:List Int),([]:List Ow),(0:Int),(0:Int),(0:Int),(0:Int),(AA,AA,(0:Int)),([]:List Int))

abbrev Y6:Type:=Int×ByteArray×ByteArray×Int×Int×Int×Int×Int×ByteArray
abbrev Jp:Type:=List (List Int)×List MP×List Ze×List Y6
abbrev BL:Type:=Int×Int×Int×Int×ByteArray×ByteArray
def Yz (g:Jp) (i:Nat):MP:=g.2.1.getD i Z0
structure Zl (g:Jp) (n:Nat):Prop where
 views:Zf g.1
 six:g.2.1.length=6
 mem:∀ i,i<6->ad (Yz g i)/\(Yz g i).1=(i:Int)+1
 fly:∀ x∈g.2.2.1,ae x
 flen:g.2.2.1.length<=8*n
 clen:g.2.2.2.length<=n
def V7 (g:Jp) (at_:Int) (e:BL):Jp:=(g.1,g.2.1,g.2.2.1,g.2.2.2++[(e.2.2.2.1,e.2.2.2.2.1,e.2.2.2.2.2,at_,-1,0,0,0,AA)])

theorem Zl.up {g:Jp} {k:Nat} (h:Zl g k):Zl g (k+1):=⟨h.views,h.six,h.mem,h.fly,by have:=h.flen; omega,by have:=h.clen; omega⟩







def V8 (views:List (List Int)) (e:Int):Int:=(views.getD (e-1).toNat []).getD 0 0
def Sc (l:List Ow) (b:Int):Prop:=∀ y∈l,y.2.2<=b
theorem Sc.mono {l:List Ow} {a b:Int} (h:Sc l a) (hab:a<=b):Sc l b:=fun y hy=>Int.le_trans (h y hy) hab
structure V1 (views:List (List Int)) (m:MP):Prop where
 lead:m.2.2.2.2.1=true->m.2.1<=(views.length:Int)/\V8 views m.2.1=m.1
 ver:Sc m.2.2.2.2.2.2.2.1 (1000*m.2.1+900)
 own:m.2.2.2.2.1=true->m.2.2.2.1=true->Sc m.2.2.2.2.2.2.2.1 (1000*m.2.1+m.2.2.2.2.2.2.2.2.1)
 task:m.2.2.2.2.2.2.2.2.2.1≠0->m.2.2.2.2.2.2.2.2.2.2.2.2.1.2.2<=1000*m.2.1+m.2.2.2.2.2.2.2.2.1
 view:m.2.2.2.1=true->m.2.1<=(views.length:Int)/\(views.getD (m.2.1-1).toNat []).contains m.1=true
structure V2 (views:List (List Int)) (x:Ze):Prop where
 inst:x.1=3->x.2.2.2.2.1=0
 old:x.1=2\/x.1=3->Sc x.2.2.2.2.2 (1000*x.2.2.2.1)
 store:x.1=5->x.2.2.1≠V8 views x.2.2.2.1/\Sc x.2.2.2.2.2 (1000*x.2.2.2.1+900)
structure V3 (g:Jp):Prop where
 mem:∀ i,i<6->V1 g.1 (Yz g i)
 fly:∀ x∈g.2.2.1,V2 g.1 x
 calls:∀ c∈g.2.2.2,c.2.2.2.2.1=-1\/0<=c.2.2.2.2.1
theorem V3.call {g:Jp} (h:V3 g) (at_:Int) (e:BL):V3 (V7 g at_ e):=⟨h.mem,h.fly,fun c hc=>by
 rcases BE.1 hc with h1 | h1
 ·exact h.calls c h1
 ·simp only [Ch] at h1
  rw [h1]; exact .inl rfl⟩

















theorem Zl.call {g:Jp} {k:Nat} (h:Zl g k) (at_:Int) (e:BL):Zl (V7 g at_ e) (k+1) :=
 ⟨h.views,h.six,h.mem,h.fly,by have:=h.flen; show g.2.2.1.length<=_; omega,by have:=h.clen; simp only [V7,List.length_append,List.length_cons,List.length_nil]; omega⟩

def af (m:MP):Prop:=m.2.2.2.2.2.2.2.2.2.2.2.2.1.2.1.size<=20
theorem Uq:ByteArray.empty.size<=20:=by decide
def ag (c:Y6):Prop:=(c.1=1\/c.1=2)/\c.2.1.size<=12/\c.2.2.2.2.2.2.2.2.size<=20
structure aO (g:Jp):Prop where
 mem:∀ i,i<6->af (Yz g i)
 calls:∀ c∈g.2.2.2,ag c
theorem aO.call {g:Jp} (h:aO g) (at_:Int) {e:BL} (he:QW e.2.2.2.1 e.2.2.2.2.1 e.2.2.2.2.2=true):aO (V7 g at_ e):=⟨h.mem,fun c hc=>by
 rcases BE.1 hc with h1 | h1
 ·exact h.calls c h1
 ·simp only [Ch] at h1
  simp only [QW,J,EN,decide_eq_true_eq] at he
  rw [h1]
  exact ⟨he.1.1.1,by show e.2.2.2.2.1.size<=12; omega,Uq⟩⟩

def HM (l:List UInt8):ByteArray:=⟨l.toArray⟩
theorem O0 (x:ByteArray):HM x.data.toList=x:=by cases x; rfl
theorem Ur (l:List UInt8):(HM l).data.toList=l:=rfl
theorem Sd (l:List UInt8):(HM l).size=l.length:=by simp [HM,ByteArray.size]
theorem F0 (x:ByteArray):x.size=x.data.toList.length:=by simp
theorem VX (a b:List UInt8):HM (a++b)=HM a++HM b:=by
 apply ByteArray.ext
 simp [HM,ByteArray.data_append]
theorem V9 {a b:List UInt8} (h:HM a=HM b):a=b:=by
 have:=congrArg (fun x:ByteArray=>x.data.toList) h
 exact this
theorem Ie (a b:ByteArray):(a.toList==b.toList)=decide (a=b):=by
 rw [Bool.eq_iff_iff,beq_iff_eq,decide_eq_true_eq]
 refine ⟨fun h=>?_,fun h=>by rw [h]⟩
 rw [ByteArray.toList_eq,ByteArray.toList_eq] at h
 cases a with
 | mk da =>
  cases b with
  | mk db=>exact congrArg ByteArray.mk (Array.toList_inj.1 h)
def HD (p:List UInt8):List (List UInt8)->List (List UInt8)
 | []=>[p]
 | h::t=>(p++h)::t
def cut (c:UInt8):List UInt8->List (List UInt8)
 | []=>[[]]
 | b::l=>if b=c then []::cut c l else HD [b] (cut c l)
theorem V_ (p:List UInt8) (x:List (List UInt8)):HD p x≠[]:=by cases x<;>simp [HD]
theorem P_ (c:UInt8) (l:List UInt8):cut c l≠[]:=by
 cases l with
 | nil=>simp [cut]
 | cons b l =>
  unfold cut
  split
  ·simp
  ·exact V_ _ _
theorem O1 {x:List (List UInt8)} (h:x≠[]):HD [] x=x:=by
 cases x with
 | nil=>exact absurd rfl h
 | cons a t=>rfl
theorem Wt (p q:List UInt8) (x:List (List UInt8)):HD p (HD q x)=HD (p++q) x:=by cases x<;>simp [HD]
theorem UA {c b:UInt8} (l p:List UInt8) (h:b≠c):HD p (cut c (b::l))=HD (p++[b]) (cut c l):=by
 rw [cut,if_neg h,Wt]
theorem Se {c b:UInt8} (l p:List UInt8) (h:b=c):HD p (cut c (b::l))=p::HD [] (cut c l):=by
 rw [cut,if_pos h,O1 (P_ c l)]
 simp [HD]
theorem Wu {b c:UInt8} (l:List UInt8) (h:b≠c):∀ n,Go.Lib.splitK [c] 0 n (b::l)=HD [b] (Go.Lib.splitK [c] 0 n l)
 | 0=>rfl
 | n+1=>by
  have hp:([c]:List UInt8).isPrefixOf (b::l)=false:=by simp [List.isPrefixOf,Ne.symm h]
  have hix:Go.Lib.index (b::l) [c]=if Go.Lib.index l [c]==-1 then -1 else Go.Lib.index l [c]+1:=by rw [Go.Lib.index,hp]; simp
  unfold Go.Lib.splitK
  by_cases hm:Go.Lib.index l [c]=-1
  ·rw [hm,if_pos (by decide)] at hix
   rw [hix,hm,if_pos (by decide),if_pos (by decide)]
   rfl
  ·have hge:=Go.Lib.index_ge l [c]
   obtain ⟨j,hj⟩:∃ j:Nat,Go.Lib.index l [c]=j:=⟨(Go.Lib.index l [c]).toNat,by omega⟩
   have n1:¬ ((j:Int)==-1)=true:=fun e=>by have:=beq_iff_eq.1 e; omega
   have n2:¬ ((j:Int)+1==-1)=true:=fun e=>by have:=beq_iff_eq.1 e; omega
   rw [hj,if_neg n1] at hix
   rw [hix,hj,if_neg n1,if_neg n2,show ((j:Int)+1).toNat=j+1 by omega,BG]
   simp [HD,Nat.add_assoc,Nat.add_comm 1,List.take_succ_cons]
theorem QA (c:UInt8):∀ l,Go.Lib.splitK [c] 0 (Go.Lib.count l [c]) l=cut c l
 | []=>by
  rw [Go.Lib.count_miss (by simp [Go.Lib.index])]
  rfl
 | b::l=>by
  by_cases h:b=c
  ·subst h
   have hix:Go.Lib.index (b::l) [b]=0:=by rw [Go.Lib.index]; simp [List.isPrefixOf]
   rw [Go.Lib.count_cons_eq,Nat.add_comm,Go.Lib.splitK,hix,if_neg (by decide),cut,if_pos rfl]
   simpa using QA b l
  ·rw [Go.Lib.count_cons_ne b c l h,Wu l h,QA c l,cut,if_neg h]
def L6 (c:UInt8) (x:ByteArray):List ByteArray:=(cut c x.data.toList).map HM
theorem Ej (x:ByteArray) (c:UInt8) (h:x.size<4294967281):Cg x ⟨#[c]⟩=some (L6 c x):=by
 rw [Qm h rfl]
 have e:(Go.Lib.splitB ⟨#[c]⟩ 0 (Go.Lib.countB x ⟨#[c]⟩) x).map (·.data.toList)=cut c x.data.toList:=by
  rw [Go.Lib.splitB_data]
  exact QA c _
 unfold L6
 rw [<- e,List.map_map,show (HM ∘ fun y:ByteArray=>y.data.toList)=id by funext y; exact O0 y,List.map_id]
def QB (l:List UInt8) (a i:Nat):List UInt8:=(l.take i).drop a
theorem Hp (l:List UInt8) (a:Nat):QB l a a=[]:=by simp [QB]
theorem Sf {l:List UInt8} {a i:Nat} (ha:a<=i) (hi:i<l.length):QB l a (i+1)=QB l a i++[l[i]]:=by
 unfold QB
 rw [List.take_succ_eq_append_getElem hi,List.drop_append_of_le_length (by simp; omega)]
theorem HE (x:ByteArray) (a b:Nat):x.extract a b=HM (QB x.data.toList a b):=by
 apply ByteArray.ext
 apply Array.ext'
 rw [Go.Lib.extract_data]
 simp [HM,QB,List.drop_take]
theorem MQ {l:List UInt8} {a i:Nat} (ha:a<=i) (hi:i<=l.length):(QB l a i=[])↔a=i:=by
 unfold QB
 rw [List.drop_eq_nil_iff,List.length_take]
 omega
theorem Kw {x:ByteArray} {i:Nat} (h:i<x.data.toList.length):x.data.toList.getD i 0=x.data.toList[i]:=DS h
theorem Xz {u:UInt8} {n:Nat} (hn:n<256):((u.toNat:Int)=(n:Int))↔u=UInt8.ofNat n:=by
 rw [<- UInt8.toNat_inj,UInt8.toNat_ofNat',Nat.mod_eq_of_lt hn]
 omega
theorem Us {n:Nat} (h:n<256):Dj [((n:Nat):Int)]=HM [UInt8.ofNat n]:=by
 simp [Dj,HM]
theorem O2 {n:Int} (h:-9223372036854775808<=n) (h1:n<=9223372036854775807):IP n=some (HM (Go.Lib.itoa n)):=SZ (by
 unfold L5
 rw [SI h h1]
 rfl)
theorem Wv {r:Nat} (h:r<10):GM (r:Int)=some ((48+r:Nat):Int):=P8 (by
 unfold KW
 rw [if_pos (by simp; omega),BK (by omega)]
 have e:IntKind.u8.wrap (48+(r:Int))=(48+(r:Int)) % 256:=rfl
 rw [e]
 congr 1
 omega)
theorem Ut:∀ (k n:Nat) (acc:ByteArray),n<10^k->n<4611686018427387904->acc.size+k<=100->D3 (n:Int) false acc=some (if n=0 then acc else HM (Go.Lib.decDigits n)++acc):=by
 intro k
 induction k with
 | zero =>
  intro n acc hn hb ha
  have:n=0:=by simpa using hn
  subst this
  refine Fu ?_
  unfold D4
  rw [if_neg (by simp),if_neg (by simp)]
  rfl
 | succ k ih =>
  intro n acc hn hb ha
  by_cases h0:n=0
  ·subst h0
   refine Fu ?_
   unfold D4
   rw [if_neg (by simp),if_neg (by simp)]
   rfl
  ·have hq:n / 10<10^k:=by rw [Nat.pow_succ] at hn; omega
   have hs:(HM [UInt8.ofNat (48+n % 10)]++acc).size=1+acc.size:=by rw [ByteArray.size_append,Sd]; rfl
   have:=ih (n / 10) (HM [UInt8.ofNat (48+n % 10)]++acc) hq (by omega) (by rw [hs]; omega)
   have et:Int.tmod (n:Int) 10=((n % 10:Nat):Int):=by rw [Int.tmod_eq_emod_of_nonneg (by omega)]; omega
   refine Fu ?_
   unfold D4
   rw [if_pos (by simpa using h0),if_neg (by omega),et,if_neg (by rw [decide_eq_false (by omega)]; simp)]
   refine Ol ?_
   unfold JS
   rw [Wv (by omega),U,Us (by omega),if_pos (by rw [Sd]; simp; omega),if_neg (by omega),Int.tdiv_eq_ediv_of_nonneg (by omega),BK (by omega),show (n:Int) / 10=((n / 10:Nat):Int) by omega,this,if_neg h0]
   congr 1
   by_cases h1:n / 10=0
   ·rw [if_pos h1,Go.Lib.decDigits_one (by omega),Nat.mod_eq_of_lt (by omega)]
   ·rw [if_neg h1,Go.Lib.decDigits.eq_def n,dif_neg (by omega),VX,ByteArray.append_assoc]
theorem O3 {n:Nat} (h:n<10000000000000):IM (n:Int)=some (HM (Go.Lib.itoa (n:Int))):=ST (by
 unfold Lz
 have ei:Go.Lib.itoa (n:Int)=Go.Lib.decDigits n:=by unfold Go.Lib.itoa; rw [if_neg (by omega)]; simp
 by_cases h0:n=0
 ·subst h0
  rw [if_pos (by simp),ei,Go.Lib.decDigits_one (by omega)]
  rfl
 ·rw [if_neg (by simpa using h0),show decide ((n:Int)<0)=false from decide_eq_false (by omega),Ut 13 n _ (by omega) (by omega) (by decide),if_neg h0,ei]
  congr 1
  apply ByteArray.ext
  simp [ByteArray.data_append,HM])
def Y0 (x:ByteArray) (n:Int):Int×Bool:=if n>1000000000 then (0,false) else if HM (Go.Lib.itoa n)=x then (n,true) else (0,false)
def Kx (x:ByteArray):List UInt8->Int->Int×Bool
 | [],n=>Y0 x n
 | b::r,n=>if b.toNat<48\/57<b.toNat then (0,false) else Kx x r (n*10+((b.toNat:Int)-48))
def Mj (x:ByteArray):Int×Bool:=if x.size=0\/10<x.size then (0,false) else Kx x x.data.toList 0
theorem WA {x:ByteArray} (hx:x.data.toList.length<=10):∀ (k i:Nat) (n:Int),i+k=x.data.toList.length->0<=n/\n<10^i->CX x n (i:Int)=some (Kx x (x.data.toList.drop i) n)
 | 0,i,n,hk,hn=>by
  have hp:(10:Int)^i<=10000000000:=by
   have:(10:Nat)^i<=10^10:=Nat.pow_le_pow_right (by omega) (by omega)
   have e:((10^i:Nat):Int)=(10:Int)^i:=by simp
   omega
  refine GC ?_
  unfold Di
  rw [if_neg (by rw [decide_eq_false (by rw [F0]; omega)]; simp),List.drop_eq_nil_of_le (by omega)]
  refine LK ?_
  unfold GA Kx Y0
  by_cases h1:n>1000000000
  ·rw [if_neg (by simpa using h1),if_pos h1]
  ·rw [if_pos (by simpa using h1),if_neg h1,O2 (by omega) (by omega),U,Ie]
   by_cases h2:HM (Go.Lib.itoa n)=x
   ·rw [if_neg (by simp [h2]),if_pos h2]
   ·rw [if_pos (by simp [h2]),if_neg h2]
 | k+1,i,n,hk,hn=>by
  have hp:(10:Int)^i<=10000000000:=by
   have:(10:Nat)^i<=10^10:=Nat.pow_le_pow_right (by omega) (by omega)
   have e:((10^i:Nat):Int)=(10:Int)^i:=by simp
   omega
  have hi:i<x.data.toList.length:=by omega
  refine GC ?_
  unfold Di
  rw [Bb hi]
  have hu:=(x.data.toList[i]).toNat_lt
  rw [if_pos (decide_eq_true (by rw [F0]; omega)),BG,Kw hi]
  repeat rw [if_pos (show (0:Int)<=(i:Int) by omega)]
  repeat rw [if_pos (show (i:Int)<(x.size:Int) by rw [F0]; omega)]
  unfold Kx
  by_cases h1:(x.data.toList[i]).toNat<48
  ·rw [if_neg (by rw [decide_eq_true (by omega)]; simp),if_pos (.inl h1)]
  ·rw [if_pos (decide_eq_false (by omega))]
   by_cases h2:57<(x.data.toList[i]).toNat
   ·rw [if_pos (decide_eq_true (by omega)),if_pos (.inr h2)]
   ·have w8:IntKind.u8.wrap (((x.data.toList[i]).toNat:Int)-48)=((x.data.toList[i]).toNat:Int)-48:=by
     have e:IntKind.u8.wrap (((x.data.toList[i]).toNat:Int)-48)=(((x.data.toList[i]).toNat:Int)-48) % 256:=rfl
     rw [e]; omega
    have hpow:(10:Int)^(i+1)=10^i*10:=Int.pow_succ ..
    rw [if_neg (by rw [decide_eq_false (by omega)]; simp),if_neg (by omega),w8,BK (n:=n*10) (by omega),BK (n:=((x.data.toList[i]).toNat:Int)-48) (by omega),BK (n:=n*10+_) (by omega),AZ (by omega)]
    exact WA hx k (i+1) _ (by omega) (by rw [hpow]; omega)
theorem WB {x:ByteArray} (hx:x.data.toList.length<=10):∀ (k i:Nat) (n:Int),i+k=x.data.toList.length->0<=n/\n<10^i->CW x n (i:Int)=some (Kx x (x.data.toList.drop i) n)
 | 0,i,n,hk,hn=>by
  have hp:(10:Int)^i<=10000000000:=by
   have:(10:Nat)^i<=10^10:=Nat.pow_le_pow_right (by omega) (by omega)
   have e:((10^i:Nat):Int)=(10:Int)^i:=by simp
   omega
  refine F6 ?_
  unfold Dg
  rw [if_neg (by rw [decide_eq_false (by rw [F0]; omega)]; simp),List.drop_eq_nil_of_le (by omega)]
  refine LI ?_
  unfold F5 Kx Y0
  by_cases h1:n>1000000000
  ·rw [if_neg (by simpa using h1),if_pos h1]
  ·obtain ⟨q,rfl⟩:∃ q:Nat,n=(q:Int):=⟨n.toNat,by omega⟩
   rw [if_pos (by simpa using h1),if_neg h1,O3 (by omega),U,Ie]
   by_cases h2:HM (Go.Lib.itoa q)=x
   ·rw [if_neg (by simp [h2]),if_pos h2]
   ·rw [if_pos (by simp [h2]),if_neg h2]
 | k+1,i,n,hk,hn=>by
  have hp:(10:Int)^i<=10000000000:=by
   have:(10:Nat)^i<=10^10:=Nat.pow_le_pow_right (by omega) (by omega)
   have e:((10^i:Nat):Int)=(10:Int)^i:=by simp
   omega
  have hi:i<x.data.toList.length:=by omega
  refine F6 ?_
  unfold Dg
  rw [Bb hi]
  have hu:=(x.data.toList[i]).toNat_lt
  rw [if_pos (decide_eq_true (by rw [F0]; omega)),BG,Kw hi]
  repeat rw [if_pos (show (0:Int)<=(i:Int) by omega)]
  repeat rw [if_pos (show (i:Int)<(x.size:Int) by rw [F0]; omega)]
  unfold Kx
  by_cases h1:(x.data.toList[i]).toNat<48
  ·rw [if_neg (by rw [decide_eq_true (by omega)]; simp),if_pos (.inl h1)]
  ·rw [if_pos (decide_eq_false (by omega))]
   by_cases h2:57<(x.data.toList[i]).toNat
   ·rw [if_pos (decide_eq_true (by omega)),if_pos (.inr h2)]
   ·have hpow:(10:Int)^(i+1)=10^i*10:=Int.pow_succ ..
    rw [if_neg (by rw [decide_eq_false (by omega)]; simp),if_neg (by omega),BK (n:=10*n) (by omega),BK (n:=((x.data.toList[i]).toNat:Int)) (by omega),BK (n:=10*n+_) (by omega),BK (n:=10*n+_-48) (by omega),AZ (by omega),show 10*n+((x.data.toList[i]).toNat:Int)-48=n*10+(((x.data.toList[i]).toNat:Int)-48) by omega]
    exact WB hx k (i+1) _ (by omega) (by rw [hpow]; omega)
theorem CY (x:ByteArray):DI x=some (Mj x):=NW (by
 unfold Id Mj
 by_cases h0:x.size=0
 ·rw [if_neg (by simp [h0]),if_pos (.inl h0)]
 ·rw [if_pos (by simpa using h0)]
  by_cases h1:10<x.size
  ·rw [if_pos (by simp; omega),if_pos (.inr h1)]
  ·rw [if_neg (by simp; omega),if_neg (by omega)]
   refine LL ?_
   unfold GB
   exact WA (by rw [<- F0]; omega) x.data.toList.length 0 0 (by omega) (by simp))
theorem CZ (x:ByteArray):Bq x=some (Mj x):=NU (by
 unfold Ic Mj
 by_cases h1:10<x.size
 ·rw [if_pos (by simp; omega),if_pos (.inr h1)]
 ·rw [if_neg (by simp; omega)]
  have:=WB (x:=x) (by rw [<- F0]; omega) x.data.toList.length 0 0 (by omega) (by simp)
  refine Eq.trans this ?_
  rw [List.drop_zero]
  by_cases h0:x.size=0
  ·have e:x.data.toList=[]:=Ci.1 (by rw [<- F0]; exact h0)
   have e2:x=HM []:=by rw [<- O0 x,e]
   rw [if_pos (.inl h0),e]
   unfold Kx Y0
   rw [if_neg (by omega),if_neg (by
    rw [e2]
    intro h
    have h:=V9 h
    have e0:Go.Lib.itoa 0=[48]:=by
     unfold Go.Lib.itoa
     rw [if_neg (by omega)]
     show Go.Lib.decDigits 0=_
     rw [Go.Lib.decDigits_one (by omega)]
     rfl
    rw [e0] at h
    cases h)]
  ·rw [if_neg (by omega)])

theorem aG {u:UInt8} (n:Nat) (hn:n<256) {m:Int} (hm:m=(n:Int)):((u.toNat:Int)==m)=decide (u=UInt8.ofNat n):=by
 subst hm
 rw [Bool.eq_iff_iff,beq_iff_eq,decide_eq_true_eq]
 exact Xz hn
theorem Z1 {u:UInt8}:((u.toNat:Int)==10)=decide (u=10):=aG 10 (by omega) rfl
theorem Z2 {u:UInt8}:((u.toNat:Int)==32)=decide (u=32):=aG 32 (by omega) rfl
theorem Z3 {u:UInt8}:((u.toNat:Int)==44)=decide (u=44):=aG 44 (by omega) rfl
theorem Z4 {u:UInt8}:((u.toNat:Int)==35)=decide (u=35):=aG 35 (by omega) rfl
theorem Br (x:ByteArray):x.data.toList.length=x.size:=by simp
def O4:List (List UInt8)->List (List UInt8)
 | []=>[]
 | [p]=>if p=[] then [] else [p]
 | p::q::t=>p::O4 (q::t)
theorem Sg (p:List UInt8) {q:List (List UInt8)} (h:q≠[]):O4 (p::q)=p::O4 q:=by
 cases q with
 | nil=>exact absurd rfl h
 | cons a t=>rfl
def HN (x:ByteArray):List ByteArray:=(O4 (cut 10 x.data.toList)).map HM
theorem NY {x:ByteArray} (hx:x.size<=1048576):∀ (k i a:Nat) (acc:List ByteArray),i+k=x.size->a<=i->acc.length<=i->CT x (a:Int) (i:Int) acc=some (acc++(O4 (HD (QB x.data.toList a i) (cut 10 (x.data.toList.drop i)))).map HM)
 | 0,i,a,acc,hk,ha,hl=>by
  have hs:=Br x
  have hi:i=x.size:=by omega
  refine IT ?_
  unfold E2
  rw [if_neg (by rw [decide_eq_false (by omega)]; simp),List.drop_eq_nil_of_le (by omega),show cut 10 []=[[]] from rfl]
  refine NK ?_
  unfold IS
  simp only [HD,List.append_nil]
  by_cases h:a<x.size
  ·rw [if_pos (decide_eq_true (by omega)),if_pos (by omega),if_pos (by omega),if_pos (by omega),if_pos (by simp; omega),HE,BG,BG,O4,if_neg (by rw [MQ ha (by omega)]; omega),<- hi]
   rfl
  ·rw [if_neg (by rw [decide_eq_false (by omega)]; simp),O4,if_pos ((MQ ha (by omega)).2 (by omega))]
   simp
 | k+1,i,a,acc,hk,ha,hl=>by
  have hs:=Br x
  have hi:i<x.data.toList.length:=by omega
  refine IT ?_
  unfold E2
  rw [if_pos (decide_eq_true (by omega)),if_pos (by omega),if_pos (by omega),BG,Kw hi,Z1,Bb hi]
  by_cases hb:x.data.toList[i]=10
  ·rw [if_pos (decide_eq_true hb),if_pos (by omega),if_pos (by omega),if_pos (by omega),if_pos (by simp; omega),AZ (by omega),HE,BG,Se _ _ hb,Sg _ (V_ _ _),
    NY hx k (i+1) (i+1) _ (by omega) (by omega) (by simp; omega),Hp]
   simp
  ·rw [if_neg (by rw [decide_eq_false hb]; simp),AZ (by omega),NY hx k (i+1) a acc (by omega) (by omega) (by omega),Sf ha hi,UA _ _ hb]
theorem If (x:ByteArray) (hx:x.size<=1048576):Et x=some (HN x):=Qp (by
 unfold K_
 have:=NY hx x.size 0 0 [] (by omega) (by omega) (by simp)
 refine Eq.trans this ?_
 rw [Hp,List.drop_zero,O1 (P_ _ _)]
 rfl)
theorem NZ:∀ {p:List (List UInt8)},p≠[]->O4 p=if p.getLast? = some [] then p.dropLast else p
 | [],h=>absurd rfl h
 | [p],_=>by
  unfold O4
  by_cases h:p=[]
  ·rw [if_pos h,h]; rfl
  ·rw [if_neg h,if_neg (by simpa using h)]
 | p::q::t,_=>by
  rw [Sg p (by simp),NZ (p:=q::t) (by simp),List.getLast?_cons_cons]
  split
  ·rfl
  ·rfl
theorem O5 (c:UInt8):∀ l,1<=(cut c l).length/\(cut c l).length<=l.length+1
 | []=>by simp [cut]
 | b::l=>by
  have ih:=O5 c l
  unfold cut
  split
  ·simp only [List.length_cons]; omega
  ·have:(HD [b] (cut c l)).length=(cut c l).length:=by
    cases h:cut c l with
    | nil=>exact absurd h (P_ c l)
    | cons a t=>rfl
   rw [this]
   simp only [List.length_cons]
   omega
def Uz (u:UInt8):Bool:=decide (32<=u.toNat)&&decide (u.toNat<=126)
def UB (z:List ByteArray):List ByteArray×Bool:=if 10<z.length then ([],false) else (z,true)
def L7 (p:List (List UInt8)):List ByteArray:=(p.filter fun q=>!q.isEmpty).map HM
def HO (x:ByteArray):List ByteArray×Bool :=
 if 600<x.size then ([],false) else if x.data.toList.all Uz=true then UB (L7 (cut 32 x.data.toList)) else ([],false)
theorem Na (p:List UInt8) (q:List (List UInt8)):L7 (p::q)=(if p=[] then [] else [HM p])++L7 q:=by
 unfold L7
 cases p with
 | nil=>rfl
 | cons a t=>rfl
theorem Ww {x:ByteArray} (hx:x.size<=1048576) (b:Int) (acc:List ByteArray):BO x b ((x.size+1:Nat):Int) acc=some (UB acc):=by
 refine Fj ?_
 unfold Dw
 rw [if_neg (by rw [decide_eq_false (by omega)]; simp)]
 refine OP ?_
 unfold JE UB
 by_cases h:10<acc.length
 ·rw [if_pos (decide_eq_true (by omega)),if_pos h]
 ·rw [if_neg (by rw [decide_eq_false (by omega)]; simp),if_neg h]
theorem TR {x:ByteArray} (hx:x.size<=1048576) {a i:Nat} {b:Bool} {acc:List ByteArray} (ha:a<=i) (hi:i<=x.size) (hl:acc.length<=i) {r:List ByteArray×Bool}
  (h:BO x ((i+1:Nat):Int) ((i+1:Nat):Int) (acc++(if QB x.data.toList a i=[] then [] else [HM (QB x.data.toList a i)]))=some r):Du x (a:Int) (i:Int) b acc=some r:=by
 have hs:=Br x
 refine OO ?_
 unfold JD
 by_cases hai:a<i
 ·rw [if_neg (by rw [MQ ha (by omega)]; omega)] at h
  rw [if_pos (decide_eq_true (by omega)),if_pos (by omega),if_pos (by omega),if_pos (by omega),if_pos (by simp; omega),AZ (by omega),HE,BG,BG]
  exact h
 ·rw [if_pos ((MQ ha (by omega)).2 (by omega)),List.append_nil] at h
  rw [if_neg (by rw [decide_eq_false (by omega)]; simp),AZ (by omega)]
  exact h
theorem Nb {x:ByteArray} (hx:x.size<=1048576):∀ (k i a:Nat) (acc:List ByteArray),i+k=x.size->a<=i->acc.length<=i ->
  BO x (a:Int) (i:Int) acc=some (if (x.data.toList.drop i).all Uz=true then UB (acc++L7 (HD (QB x.data.toList a i) (cut 32 (x.data.toList.drop i)))) else ([],false))
 | 0,i,a,acc,hk,ha,hl=>by
  have hs:=Br x
  have hi:i=x.size:=by omega
  refine Fj ?_
  unfold Dw
  rw [if_pos (decide_eq_true (by omega)),if_neg (by rw [decide_eq_false (by omega)]; simp),List.drop_eq_nil_of_le (by omega),if_pos (by simp),show cut 32 []=[[]] from rfl]
  refine JF ?_
  unfold Fi
  rw [if_neg (by rw [decide_eq_false (by omega)]; simp)]
  refine TR hx ha (by omega) hl ?_
  rw [hi,Ww hx]
  simp only [HD,List.append_nil]
  rw [Na]
  simp [L7]
 | k+1,i,a,acc,hk,ha,hl=>by
  have hs:=Br x
  have hi:i<x.data.toList.length:=by omega
  have J1:∀ b,Dv x (a:Int) (i:Int) b acc=some (if (x.data.toList.drop (i+1)).all Uz=true then UB (acc++L7 (HD (QB x.data.toList a i) (cut 32 (x.data.toList.drop i)))) else ([],false)):=fun b=>by
   refine JF ?_
   unfold Fi
   rw [if_pos (decide_eq_true (by omega)),if_pos (by omega),if_pos (by omega),BG,Kw hi,bne,Z2,Bb hi]
   by_cases hb:x.data.toList[i]=32
   ·rw [if_neg (by rw [decide_eq_true hb]; simp)]
    refine TR hx ha (by omega) hl ?_
    rw [Nb hx k (i+1) (i+1) _ (by omega) (by omega) (by split<;>simp<;>omega),Hp,Se _ _ hb,Na,Bi]
   ·rw [if_pos (by rw [decide_eq_false hb]; simp),AZ (by omega),Nb hx k (i+1) a acc (by omega) (by omega) (by omega),Sf ha hi,UA _ _ hb]
  refine Fj ?_
  unfold Dw
  rw [if_pos (decide_eq_true (by omega)),if_pos (decide_eq_true (by omega)),if_pos (by omega),if_pos (by omega),BG,Kw hi,Bb hi,List.all_cons]
  by_cases h1:(x.data.toList[i]).toNat<32
  ·rw [if_neg (by rw [decide_eq_true (by omega)]; simp),if_neg (by
    have:Uz x.data.toList[i]=false:=by unfold Uz; rw [decide_eq_false (by omega)]; rfl
    rw [this]; simp)]
  ·rw [if_pos (decide_eq_false (by omega)),if_pos (by omega),if_pos (by omega)]
   by_cases h2:126<(x.data.toList[i]).toNat
   ·rw [if_pos (decide_eq_true (by omega)),if_neg (by
     have:Uz x.data.toList[i]=false:=by unfold Uz; rw [decide_eq_false (p:=(x.data.toList[i]).toNat<=126) (by omega),Bool.and_false]
     rw [this]; simp)]
   ·have:Uz x.data.toList[i]=true:=by unfold Uz; rw [decide_eq_true (by omega),decide_eq_true (by omega)]; rfl
    rw [if_neg (by rw [decide_eq_false (by omega)]; simp),J1,this,Bool.true_and,<- Bb hi]
theorem O6 (x:ByteArray):IG x=some (HO x):=SL (by
 unfold Lq HO
 by_cases h:600<x.size
 ·rw [if_pos (decide_eq_true (by omega)),if_pos h]
 ·rw [if_neg (by rw [decide_eq_false (by omega)]; simp),if_neg h]
  have:=Nb (x:=x) (by omega) x.size 0 0 [] (by omega) (by omega) (by simp)
  refine Eq.trans this ?_
  rw [Hp,List.drop_zero,O1 (P_ _ _),List.nil_append])
theorem QC (ps:List (List UInt8)) (hp:ps.length<=1048577):∀ (k i:Nat) (acc:List ByteArray),i+k=ps.length->acc.length<=i->Cr (ps.map HM) (ps.length:Int) (i:Int) acc=some (UB (acc++L7 (ps.drop i)))
 | 0,i,acc,hk,hl=>by
  refine JO ?_
  unfold Fo
  rw [if_neg (by rw [decide_eq_false (by omega)]; simp),List.drop_eq_nil_of_le (by omega)]
  refine Oi ?_
  unfold JM UB
  rw [show L7 []=[] from rfl,List.append_nil]
  by_cases h:10<acc.length
  ·rw [if_pos (decide_eq_true (by omega)),if_pos h]
  ·rw [if_neg (by rw [decide_eq_false (by omega)]; simp),if_neg h]
 | k+1,i,acc,hk,hl=>by
  have hi:i<ps.length:=by omega
  have hi2:i<(ps.map HM).length:=by simpa using hi
  refine JO ?_
  unfold Fo
  rw [if_pos (decide_eq_true (by omega)),if_pos (by omega),if_pos (by simp; omega),BG,DS hi2,List.getElem_map,Ie,Bb hi,Na,AZ (by omega)]
  by_cases hb:ps[i]=[]
  ·rw [if_neg (by rw [hb,show decide (HM []=(⟨#[]⟩:ByteArray))=true from decide_eq_true rfl]; simp),if_pos hb,QC ps hp k (i+1) acc (by omega) (by omega)]
   rfl
  ·rw [if_pos (by rw [show decide (HM ps[i]=(⟨#[]⟩:ByteArray))=false from decide_eq_false (fun e=>hb (V9 (b:=[]) e))]; rfl),if_neg hb,if_pos (by simp; omega),QC ps hp k (i+1) _ (by omega) (by simp; omega),Bi]
theorem Sh {x:ByteArray} (hx:x.size<=1048576):∀ (k i:Nat),i+k=x.size->Dz x (i:Int)=some (if (x.data.toList.drop i).all Uz=true then UB (L7 (cut 32 x.data.toList)) else ([],false))
 | 0,i,hk=>by
  have hs:=Br x
  have hc:=O5 32 x.data.toList
  refine JP ?_
  unfold Fp
  rw [if_neg (by rw [decide_eq_false (by omega)]; simp),List.drop_eq_nil_of_le (by omega),if_pos (by simp)]
  refine Oj ?_
  unfold JN
  rw [Ej _ _ (by omega),U]
  have:=QC (cut 32 x.data.toList) (by omega) (cut 32 x.data.toList).length 0 [] (by omega) (by simp)
  unfold L6
  rw [List.length_map]
  refine Eq.trans this ?_
  rfl
 | k+1,i,hk=>by
  have hs:=Br x
  have hi:i<x.data.toList.length:=by omega
  refine JP ?_
  unfold Fp
  rw [if_pos (decide_eq_true (by omega)),if_pos (by omega),if_pos (by omega),BG,Kw hi,Bb hi,List.all_cons]
  by_cases h1:(x.data.toList[i]).toNat<32
  ·rw [if_neg (by rw [decide_eq_true (by omega)]; simp),if_neg (by
    have:Uz x.data.toList[i]=false:=by unfold Uz; rw [decide_eq_false (by omega)]; rfl
    rw [this]; simp)]
  ·rw [if_pos (decide_eq_false (by omega)),if_pos (by omega),if_pos (by omega)]
   by_cases h2:126<(x.data.toList[i]).toNat
   ·rw [if_pos (decide_eq_true (by omega)),if_neg (by
     have:Uz x.data.toList[i]=false:=by unfold Uz; rw [decide_eq_false (p:=(x.data.toList[i]).toNat<=126) (by omega),Bool.and_false]
     rw [this]; simp)]
   ·have:Uz x.data.toList[i]=true:=by unfold Uz; rw [decide_eq_true (by omega),decide_eq_true (by omega)]; rfl
    rw [if_neg (by rw [decide_eq_false (by omega)]; simp),AZ (by omega),Sh hx k (i+1) (by omega),this,Bool.true_and]
theorem O7 (x:ByteArray):IK x=some (HO x):=SQ (by
 unfold Lx HO
 by_cases h:600<x.size
 ·rw [if_pos (decide_eq_true (by omega)),if_pos h]
 ·rw [if_neg (by rw [decide_eq_false (by omega)]; simp),if_neg h]
  exact Sh (x:=x) (by omega) x.size 0 (by omega))
def X0:List (List UInt8)->List Int->List Int×Bool
 | [],acc=>(acc,true)
 | p::t,acc=>if (Mj (HM p)).2=true then X0 t (acc++[(Mj (HM p)).1]) else ([],false)
def BC (x:ByteArray):List Int×Bool:=X0 (cut 44 x.data.toList) []
theorem Si {x:ByteArray} (hx:x.size<=1048576) {a i:Nat} {b:Bool} {acc:List Int} {t:List (List UInt8)} (ha:a<=i) (hi:i<=x.size) (hl:acc.length<=i)
  (h:∀ n,Ba x ((i+1:Nat):Int) ((i+1:Nat):Int) (acc++[n])=some (X0 t (acc++[n]))):C4 x (a:Int) (i:Int) b acc=some (X0 (QB x.data.toList a i::t) acc):=by
 refine Mh ?_
 unfold HX X0
 rw [if_pos (by omega),if_pos (by omega),if_pos (by omega),HE,BG,BG,CZ,U]
 cases hr:(Mj (HM (QB x.data.toList a i))).2 with
 | true=>rw [if_neg (by simp),if_pos (by simp; omega),if_pos rfl,AZ (by omega),h]
 | false=>rw [if_pos (by simp),if_neg (by simp)]
theorem L8 {x:ByteArray} (hx:x.size<=1048576):∀ (k i a:Nat) (acc:List Int),i+k=x.size->a<=i->acc.length<=i->Ba x (a:Int) (i:Int) acc=some (X0 (HD (QB x.data.toList a i) (cut 44 (x.data.toList.drop i))) acc)
 | 0,i,a,acc,hk,ha,hl=>by
  have hs:=Br x
  have hi:i=x.size:=by omega
  refine Ei ?_
  unfold C5
  rw [if_pos (decide_eq_true (by omega)),if_neg (by rw [decide_eq_false (by omega)]; simp),List.drop_eq_nil_of_le (by omega),show cut 44 []=[[]] from rfl]
  simp only [HD,List.append_nil]
  refine Si hx ha (by omega) hl fun n=>?_
  refine Ei ?_
  unfold C5
  rw [if_neg (by rw [decide_eq_false (by omega)]; simp)]
  rfl
 | k+1,i,a,acc,hk,ha,hl=>by
  have hs:=Br x
  have hi:i<x.data.toList.length:=by omega
  refine Ei ?_
  unfold C5
  rw [if_pos (decide_eq_true (by omega)),if_pos (decide_eq_true (by omega)),if_pos (by omega),if_pos (by omega),BG,Kw hi,bne,Z3,Bb hi]
  by_cases hb:x.data.toList[i]=44
  ·rw [if_neg (by rw [decide_eq_true hb]; simp),Se _ _ hb]
   refine Si hx ha (by omega) hl fun n=>?_
   rw [L8 hx k (i+1) (i+1) _ (by omega) (by omega) (by simp; omega),Hp]
  ·rw [if_pos (by rw [decide_eq_false hb]; simp),AZ (by omega),L8 hx k (i+1) a acc (by omega) (by omega) (by omega),Sf ha hi,UA _ _ hb]
theorem Mk (x:ByteArray) (hx:x.size<=1048576):GL x=some (BC x):=Pm (by
 unfold KP BC
 have:=L8 hx x.size 0 0 [] (by omega) (by omega) (by simp)
 refine Eq.trans this ?_
 rw [Hp,List.drop_zero,O1 (P_ _ _)])
theorem TS (ps:List (List UInt8)) (hp:ps.length<=1048577):∀ (k i:Nat) (acc:List Int),i+k=ps.length->acc.length<=i->Eb (ps.map HM) (ps.length:Int) (i:Int) [] acc=some (X0 (ps.drop i) acc)
 | 0,i,acc,hk,hl=>by
  refine KT ?_
  unfold GO
  rw [if_neg (by rw [decide_eq_false (by omega)]; simp),List.drop_eq_nil_of_le (by omega)]
  rfl
 | k+1,i,acc,hk,hl=>by
  have hi:i<ps.length:=by omega
  have hi2:i<(ps.map HM).length:=by simpa using hi
  refine KT ?_
  unfold GO
  rw [if_pos (decide_eq_true (by omega)),if_pos (by omega),if_pos (by simp; omega),BG,DS hi2,List.getElem_map,CY,U,Bb hi,AZ (by omega)]
  unfold X0
  cases hr:(Mj (HM ps[i])).2 with
  | true=>rw [if_neg (by simp),if_pos (by simp; omega),if_pos rfl,TS ps hp k (i+1) _ (by omega) (by simp; omega)]
  | false=>rw [if_pos (by simp),if_neg (by simp)]
theorem KY (x:ByteArray) (hx:x.size<=1048576):Jj x=some (BC x):=S3 (by
 have hc:=O5 44 x.data.toList
 have hs:=Br x
 unfold Mt BC
 rw [Ej _ _ (by omega),U]
 unfold L6
 rw [List.length_map]
 exact TS (cut 44 x.data.toList) (by omega) (cut 44 x.data.toList).length 0 [] (by omega) (by simp))

theorem X_ (x:ByteArray) (l:List UInt8):(x.toList==(HM l).toList)=decide (x.data.toList=l):=by
 rw [Ie,Bool.eq_iff_iff,decide_eq_true_eq,decide_eq_true_eq]
 exact ⟨fun h=>by rw [h]; rfl,fun h=>by rw [<- h,O0]⟩
theorem aP (x:ByteArray) (l:List UInt8):((HM l).toList==x.toList)=decide (l=x.data.toList):=by
 rw [Ie,Bool.eq_iff_iff,decide_eq_true_eq,decide_eq_true_eq]
 exact ⟨fun h=>by rw [<- h]; rfl,fun h=>by rw [h,O0]⟩
theorem Z5 (p:ByteArray):(p.toList==(⟨#[112,117,116]⟩:ByteArray).toList)=decide (p.data.toList=[112,117,116]):=X_ p _
theorem Zg (p:ByteArray):(p.toList==(⟨#[103,101,116]⟩:ByteArray).toList)=decide (p.data.toList=[103,101,116]):=X_ p _
theorem aQ (p:ByteArray):(p.toList==(⟨#[100,101,108,105,118,101,114]⟩:ByteArray).toList)=decide (p.data.toList=[100,101,108,105,118,101,114]):=X_ p _
theorem Z6 (p:ByteArray):(p.toList==(⟨#[100,114,111,112]⟩:ByteArray).toList)=decide (p.data.toList=[100,114,111,112]):=X_ p _
theorem Z7 (p:ByteArray):(p.toList==(⟨#[99,111,112,121]⟩:ByteArray).toList)=decide (p.data.toList=[99,111,112,121]):=X_ p _
theorem Zh (p:ByteArray):(p.toList==(⟨#[97,100,111,112,116]⟩:ByteArray).toList)=decide (p.data.toList=[97,100,111,112,116]):=X_ p _
theorem Z8 (p:ByteArray):(p.toList==(⟨#[102,97,108,108]⟩:ByteArray).toList)=decide (p.data.toList=[102,97,108,108]):=X_ p _
theorem WC (p:ByteArray):(p.toList==(⟨#[118,105,101,119]⟩:ByteArray).toList)=decide (p.data.toList=[118,105,101,119]):=X_ p _
def X1:BL:=((0:Int),(0:Int),(0:Int),(0:Int),AA,AA)
def EM:List (List UInt8):=[[100,101,108,105,118,101,114],[100,114,111,112],[99,111,112,121],[97,100,111,112,116],[102,97,108,108]]
def X2 (k n:Int):BL:=if k<=4 then (k,1,n,0,AA,AA) else (k,n,0,0,AA,AA)
def VY (l:List UInt8) (a:ByteArray):List (List UInt8)->Int->BL×Bool
 | [],_=>(X1,false)
 | w::ws,k=>if w=l then (X2 k (Mj a).1,(Mj a).2) else VY l a ws (k+1)
def Hj (l:List UInt8) (t:List ByteArray):BL×Bool :=
 if l=[112,117,116] then (match t with
  | [a,b,c]=>((1,(Mj a).1,0,1,b,c),(Mj a).2)
  | _=>(X1,false))
 else if l=[103,101,116] then (match t with
  | [a,b]=>((1,(Mj a).1,0,2,b,AA),(Mj a).2)
  | _=>(X1,false))
 else (match t with
  | [a]=>VY l a EM 2
  | _=>(X1,false))
theorem UC (p:ByteArray) (t:List ByteArray) (z:BL) (ht:t.length≠1):∀ (k i:Nat),i+k=5->BR (p::t) (i:Int) z (EM.map HM)=some (X1,false)
 | 0,i,hk=>by
  refine DN ?_
  unfold CU
  rw [if_neg (by rw [decide_eq_false (by simp [EM]<;>omega)]; simp)]
  rfl
 | k+1,i,hk=>by
  have ih:=UC p t z ht k (i+1) (by omega)
  refine DN ?_
  unfold CU
  rw [if_pos (decide_eq_true (by simp [EM]<;>omega)),if_pos (by omega),if_pos (by simp [EM]<;>omega),if_pos (by omega),if_pos (by simp<;>omega),AZ (by omega)]
  split
  ·exact ih
  ·rw [if_pos (by simp<;>omega)]
   exact ih
theorem X3 (p a:ByteArray) (z:BL):∀ (k i:Nat),i+k=5->BR [p,a] (i:Int) z (EM.map HM)=some (VY p.data.toList a (EM.drop i) (2+(i:Int)))
 | 0,i,hk=>by
  refine DN ?_
  unfold CU
  rw [if_neg (by rw [decide_eq_false (by simp [EM]<;>omega)]; simp),List.drop_eq_nil_of_le (by simp [EM]<;>omega)]
  rfl
 | k+1,i,hk=>by
  have hi:i<EM.length:=by simp [EM]; omega
  have hi2:i<(EM.map HM).length:=by simpa using hi
  have ih:=X3 p a z k (i+1) (by omega)
  refine DN ?_
  unfold CU
  rw [if_pos (decide_eq_true (by omega)),if_pos (by omega),if_pos (by omega),if_pos (by omega),if_pos (by simp),AZ (by omega),BG,DS hi2,List.getElem_map,show ([p,a]:List ByteArray).getD (0:Int).toNat AA=p from rfl,aP,Bb hi]
  unfold VY
  by_cases hw:EM[i]=p.data.toList
  ·rw [if_neg (by simp; exact hw),if_neg (by simp)]
   refine Eq.trans ?_ (congrArg some (if_pos hw).symm)
   refine NP ?_
   unfold IX X2
   rw [if_pos (by omega),if_pos (by simp),show ([p,a]:List ByteArray).getD (1:Int).toNat AA=a from rfl,CZ,U,BK (by omega)]
   by_cases h4:2+(i:Int)<=4
   ·rw [if_pos (decide_eq_true h4),if_pos h4]
   ·rw [if_neg (by rw [decide_eq_false h4]; simp),if_neg h4]
  ·rw [if_pos (by simp; exact hw),ih]
   refine Eq.trans ?_ (congrArg some (if_neg hw).symm)
   congr 2
theorem O8 (p:ByteArray) (t:List ByteArray) (z:BL):BR (p::t) (0:Int) z (EM.map HM)=some (match t with
  | [a]=>VY p.data.toList a EM 2
  | _=>(X1,false)):=by
 match t with
 | []=>exact UC p [] z (by simp) 5 0 rfl
 | [a]=>exact X3 p a z 5 0 rfl
 | a::b::r=>exact UC p (a::b::r) z (by simp) 5 0 rfl
theorem Nc (p:ByteArray) (t:List ByteArray):HI (p::t)=some (Hj p.data.toList t):=Qq (by
 have h0:(p::t).getD (0:Int).toNat AA=p:=rfl
 have J1:∀ b z,p.data.toList≠[112,117,116]\/t.length≠3->DL (p::t) b z=some (Hj p.data.toList t)\/p.data.toList=[112,117,116]/\DL (p::t) b z=some (X1,false):=fun b z hb=>by
  by_cases hput:p.data.toList=[112,117,116]
  ·refine .inr ⟨hput,IY ?_⟩
   unfold E6
   rw [if_pos (by omega),if_pos (by simp<;>omega),h0,Zg,if_neg (by rw [hput]; decide)]
   refine E8 ?_
   unfold DM
   rw [if_neg (by simp)]
   refine (O8 p t z).trans ?_
   match t with
   | []=>rfl
   | [a]=>rw [hput]; rfl
   | a::b::r=>rfl
  ·refine .inl (IY ?_)
   unfold E6 Hj
   rw [if_pos (by omega),if_pos (by simp<;>omega),h0,Zg,if_neg hput]
   by_cases hget:p.data.toList=[103,101,116]
   ·rw [if_pos (decide_eq_true hget),if_pos hget]
    refine E8 ?_
    unfold DM
    match t with
    | [a,b] =>
     rw [if_pos (by simp),if_pos (by omega),if_pos (by simp),show (p::[a,b]).getD (1:Int).toNat AA=a from rfl,CZ,U,if_pos (by omega),if_pos (by simp)]
     rfl
    | [] =>
     rw [if_neg (by simp)]
     exact (O8 p [] z).trans rfl
    | [a] =>
     rw [if_neg (by simp)]
     refine (O8 p [a] z).trans ?_
     rw [hget]
     rfl
    | a::b::c::r =>
     rw [if_neg (by simp<;>omega)]
     exact (O8 p (a::b::c::r) z).trans rfl
   ·rw [if_neg (by rw [decide_eq_false hget]; simp),if_neg hget]
    refine E8 ?_
    unfold DM
    rw [if_neg (by simp)]
    exact O8 p t z
 unfold LA
 rw [if_pos (by omega),if_pos (by simp<;>omega),h0,Z5]
 by_cases hput:p.data.toList=[112,117,116]
 ·rw [if_pos (decide_eq_true hput)]
  refine IZ ?_
  unfold E7
  by_cases h3:t.length=3
  ·match t,h3 with
   | [a,b,c],_ =>
    rw [if_pos (by simp),if_pos (by omega),if_pos (by simp),show (p::[a,b,c]).getD (1:Int).toNat AA=a from rfl,CZ,U,if_pos (by omega),if_pos (by simp),if_pos (by omega),if_pos (by simp)]
    unfold Hj
    rw [if_pos hput]
    rfl
  ·rw [if_neg (by simp<;>omega)]
   rcases J1 (((p::t).length:Int)==4) ((0:Int),(0:Int),(0:Int),(0:Int),AA,AA) (.inr h3) with h | ⟨_,h⟩
   ·exact h
   ·rw [h]
    unfold Hj
    rw [if_pos hput]
    match t,h3 with
    | [],_=>rfl
    | [a],_=>rfl
    | [a,b],_=>rfl
    | [a,b,c],h3=>exact absurd rfl h3
    | a::b::c::d::r,_=>rfl
 ·rw [if_neg (by rw [decide_eq_false hput]; simp)]
  refine IZ ?_
  unfold E7
  rw [if_neg (by simp)]
  rcases J1 false ((0:Int),(0:Int),(0:Int),(0:Int),AA,AA) (.inl hput) with h | ⟨h,_⟩
  ·exact h
  ·exact absurd h hput)
def LE (l:List UInt8):Int×Int :=
 if l=[112,117,116] then (1,4) else if l=[103,101,116] then (1,3) else if l=[100,101,108,105,118,101,114] then (2,2) else if l=[100,114,111,112] then (3,2) else if l=[99,111,112,121] then (4,2)
 else if l=[97,100,111,112,116] then (5,2) else if l=[102,97,108,108] then (6,2) else (0,0)
theorem QD (p:ByteArray):Jk p=some (LE p.data.toList):=S4 (by
 unfold Mu LE
 rw [Z5,Zg,aQ,Z6,Z7,Zh,Z8]
 simp only [decide_eq_true_eq]
 (repeat' split)<;>rfl)
def U0 (r:BL×Bool):BL×Bool:=(r.1,r.2&&T_ r.1)
theorem WD (b:Bool) (z e:BL):B6 b z e=some (U0 (e,b)):=by
 refine Ok ?_
 unfold JQ U0
 cases b with
 | true=>rw [if_pos rfl,Ou]; rfl
 | false=>rw [if_neg (by simp)]; rfl
theorem Zi (p a:ByteArray) (k c:Int) (b:Bool) (z:BL) (hk:2<=k/\k<=6):D0 [p,a] k c b z=some (U0 (X2 k (Mj a).1,(Mj a).2)):=by
 refine Fs ?_
 unfold D2 X2
 rw [if_pos (by omega),if_pos (by simp),show ([p,a]:List ByteArray).getD (1:Int).toNat AA=a from rfl,CY,U]
 have J1:∀ x5 e,x5=(k==2||k==3||k==4)->B7 [p,a] c (Mj a).1 (Mj a).2 k x5 z (k,(Mj a).1,0,0,AA,AA)=some (U0 (if k<=4 then (k,1,(Mj a).1,0,AA,AA) else (k,(Mj a).1,0,0,AA,AA),e))\/e≠(Mj a).2:=fun x5 e h5=>by
  by_cases he:e=(Mj a).2
  ·left
   subst he
   refine Fq ?_
   unfold D1
   by_cases h4:k<=4
   ·have:x5=true:=by
     rw [h5]
     have:k=2\/k=3\/k=4:=by omega
     rcases this with rfl | rfl | rfl<;>rfl
    rw [if_pos this,WD,if_pos h4]
   ·have:x5=false:=by
     rw [h5]
     have:k=5\/k=6:=by omega
     rcases this with rfl | rfl<;>rfl
    rw [if_neg (by rw [this]; simp),if_neg (by simp<;>omega),WD,if_neg h4]
  ·exact .inr he
 have fin:∀ x5,x5=(k==2||k==3||k==4)->B7 [p,a] c (Mj a).1 (Mj a).2 k x5 z (k,(Mj a).1,0,0,AA,AA)=some (U0 (if k<=4 then (k,1,(Mj a).1,0,AA,AA) else (k,(Mj a).1,0,0,AA,AA),(Mj a).2)):=fun x5 h5=>by
  rcases J1 x5 (Mj a).2 h5 with h | h
  ·exact h
  ·exact absurd rfl h
 by_cases h2:k=2
 ·rw [if_pos (by simp [h2])]
  exact fin _ (by rw [h2]; rfl)
 ·rw [if_neg (by simpa using h2)]
  by_cases h3:k=3
  ·rw [if_pos (by simp [h3])]
   exact fin _ (by rw [h3]; rfl)
  ·rw [if_neg (by simpa using h3)]
   refine fin _ ?_
   have e2:(k==2)=false:=by simpa using h2
   have e3:(k==3)=false:=by simpa using h3
   rw [e2,e3]
   rfl
theorem JY (p:ByteArray) (t:List ByteArray):IL (p::t)=some (U0 (Hj p.data.toList t)):=SS (by
 have h0:(p::t).getD (0:Int).toNat AA=p:=rfl
 unfold Ly
 rw [if_pos (by omega),if_pos (by simp<;>omega),h0,QD,U]
 generalize hl:p.data.toList=l
 by_cases w1:l=[112,117,116]
 ·subst w1
  rw [show LE [112,117,116]=(1,4) from rfl,if_pos (by rfl)]
  match t with
  | [a,b,c] =>
   rw [if_neg (by simp)]
   refine Fs ?_
   unfold D2
   rw [if_pos (by omega),if_pos (by simp),show (p::[a,b,c]).getD (1:Int).toNat AA=a from rfl,CY,U,if_neg (by decide),if_neg (by decide)]
   refine Fq ?_
   unfold D1
   rw [if_neg (by decide),if_pos (by decide),if_pos (by omega),if_pos (by simp),if_pos (by decide),if_pos (by omega),if_pos (by simp),WD]
   rfl
  | []=>rw [if_pos (by simp)]; rfl
  | [a]=>rw [if_pos (by simp)]; rfl
  | [a,b]=>rw [if_pos (by simp)]; rfl
  | a::b::c::d::r=>rw [if_pos (by simp<;>omega)]; rfl
 by_cases w2:l=[103,101,116]
 ·subst w2
  rw [show LE [103,101,116]=(1,3) from rfl,if_pos (by rfl)]
  match t with
  | [a,b] =>
   rw [if_neg (by simp)]
   refine Fs ?_
   unfold D2
   rw [if_pos (by omega),if_pos (by simp),show (p::[a,b]).getD (1:Int).toNat AA=a from rfl,CY,U,if_neg (by decide),if_neg (by decide)]
   refine Fq ?_
   unfold D1
   rw [if_neg (by decide),if_pos (by decide),if_pos (by omega),if_pos (by simp),if_neg (by decide),WD]
   rfl
  | []=>rw [if_pos (by simp)]; rfl
  | [a]=>rw [if_pos (by simp)]; rfl
  | a::b::c::r=>rw [if_pos (by simp<;>omega)]; rfl
 have go:∀ k:Int,2<=k/\k<=6->LE l=(k,2)->(∀ a,Hj l [a]=(X2 k (Mj a).1,(Mj a).2))->Hj l []=(X1,false)->(∀ a b r,Hj l (a::b::r)=(X1,false)) ->
   (if ((LE l).1==(0:Int))=false then (if (((p::t).length:Int) != (LE l).2)=true then (some (((0:Int),(0:Int),(0:Int),(0:Int),AA,AA),false)) else (D0 (p::t) (LE l).1 (LE l).2 (((p::t).length:Int) != (LE l).2) ((0:Int),(0:Int),(0:Int),(0:Int),AA,AA))) else (some (((0:Int),(0:Int),(0:Int),(0:Int),AA,AA),false)))=some (U0 (Hj l t)):=by
  intro k hk e1 r1 r0 r2
  rw [e1,if_pos (by simp<;>omega)]
  match t with
  | [a] =>
   rw [if_neg (by simp),Zi p a k 2 _ _ hk,r1]
  | []=>rw [if_pos (by simp),r0]; rfl
  | a::b::r=>rw [if_pos (by simp<;>omega),r2]; rfl
 by_cases w3:l=[100,101,108,105,118,101,114]
 ·subst w3; exact go 2 (by omega) rfl (fun a=>rfl) rfl (fun a b r=>rfl)
 by_cases w4:l=[100,114,111,112]
 ·subst w4; exact go 3 (by omega) rfl (fun a=>rfl) rfl (fun a b r=>rfl)
 by_cases w5:l=[99,111,112,121]
 ·subst w5; exact go 4 (by omega) rfl (fun a=>rfl) rfl (fun a b r=>rfl)
 by_cases w6:l=[97,100,111,112,116]
 ·subst w6; exact go 5 (by omega) rfl (fun a=>rfl) rfl (fun a b r=>rfl)
 by_cases w7:l=[102,97,108,108]
 ·subst w7; exact go 6 (by omega) rfl (fun a=>rfl) rfl (fun a b r=>rfl)
 have ek:LE l=(0,0):=by unfold LE; rw [if_neg w1,if_neg w2,if_neg w3,if_neg w4,if_neg w5,if_neg w6,if_neg w7]
 have er:Hj l t=(X1,false):=by
  unfold Hj
  rw [if_neg w1,if_neg w2]
  match t with
  | []=>rfl
  | [a] =>
   show VY l a EM 2=_
   simp only [EM,VY]
   rw [if_neg (Ne.symm w3),if_neg (Ne.symm w4),if_neg (Ne.symm w5),if_neg (Ne.symm w6),if_neg (Ne.symm w7)]
  | a::b::r=>rfl
 rw [ek,er,if_neg (by simp)]
 rfl)

theorem X4 {p:List UInt8} {x:List (List UInt8)} {n:Nat} (hx:∀ q∈x,q.length<=n):∀ q∈HD p x,q.length<=p.length+n:=by
 cases x with
 | nil=>intro q hq; simp only [HD,Ch] at hq; rw [hq]; omega
 | cons a t =>
  intro q hq
  simp only [HD,AL] at hq
  rcases hq with rfl | hq
  ·have:=hx a (by simp); simp only [List.length_append]; omega
  ·have:=hx q (by simp [hq]); omega
theorem WE (c:UInt8):∀ l,∀ q∈cut c l,q.length<=l.length
 | []=>by simp [cut]
 | b::l=>by
  have ih:=WE c l
  unfold cut
  split
  ·intro q hq
   rcases AL.1 hq with rfl | hq
   ·simp
   ·have:=ih q hq; simp only [List.length_cons]; omega
  ·intro q hq
   have:=X4 (p:=[b]) ih q hq
   simp only [List.length_cons,List.length_nil] at this ⊢
   omega
theorem QE {x p:ByteArray} (h:p∈(HO x).1):p.data.toList≠[]/\p.size<=600:=by
 unfold HO at h
 split at h
 ·cases h
 ·rename_i hx
  split at h
  ·unfold UB at h
   split at h
   ·cases h
   ·simp only [L7,List.mem_map,List.mem_filter] at h
    obtain ⟨q,⟨hq,hn⟩,rfl⟩:=h
    refine ⟨fun e=>?_,?_⟩
    ·have e:q=[]:=e
     rw [e] at hn
     cases hn
    ·have:=WE 32 _ q hq
     rw [Sd]
     have:=Br x
     omega
  ·cases h
theorem WF:∀ (ps:List (List UInt8)) (acc:List Int),(X0 ps acc).1.length<=acc.length+ps.length
 | [],acc=>by simp [X0]
 | p::t,acc=>by
  unfold X0
  split
  ·have:=WF t (acc++[(Mj (HM p)).1])
   simp only [List.length_append,List.length_cons,List.length_nil] at this ⊢
   omega
  ·simp
theorem Sj {a:ByteArray} (h:a.size<=600):(BC a).1.length<=601:=by
 have h1:=WF (cut 44 a.data.toList) []
 have h2:=O5 44 a.data.toList
 have h3:=Br a
 unfold BC
 simp only [List.length_nil] at h1
 omega
def JZ (x:ByteArray) (vs:List (List Int)) (es:List BL):Option (List (List Int)×List BL) :=
 if (HO x).2=true then
  match (HO x).1 with
  | []=>some (vs,es)
  | p::t =>
   if p.data.toList.getD 0 0=35 then some (vs,es)
   else if p.data.toList=[118,105,101,119] then (match t with
    | [a]=>if es.length=0/\(BC a).2=true/\At (vs++[(BC a).1]) (vs++[(BC a).1]).length (vs++[(BC a).1])=true then some (vs++[(BC a).1],es) else none
    | _=>none)
   else if (U0 (Hj p.data.toList t)).2=true/\vs.length≠0/\es.length<70 then some (vs,es++[(Hj p.data.toList t).1]) else none
 else none
structure L9 (vs:List (List Int)) (es:List BL) (n:Nat):Prop where
 vl:vs.length<=n
 el:es.length<=70
 w:∀ v∈vs,v.length<=601
 ok:vs.length≠0->At vs vs.length vs=true
 ev:∀ e∈es,T_ e=true
theorem L9.step {vs vs':List (List Int)} {es es':List BL} {n:Nat} {x:ByteArray} (h:L9 vs es n) (hs:JZ x vs es=some (vs',es')):L9 vs' es' (n+1):=by
 have up:L9 vs es (n+1):=⟨by have:=h.vl; omega,h.el,h.w,h.ok,h.ev⟩
 unfold JZ at hs
 split at hs
 ·split at hs
  ·cases hs; exact up
  ·rename_i p t hp
   split at hs
   ·cases hs; exact up
   ·split at hs
    ·split at hs
     ·rename_i a
      split at hs
      ·rename_i hc
       cases hs
       refine ⟨by have:=h.vl; simp; omega,h.el,fun v hv=>?_,fun _=>hc.2.2,h.ev⟩
       rcases BE.1 hv with hv | hv
       ·exact h.w v hv
       ·rw [Ch.1 hv]
        exact Sj (QE (x:=x) (p:=a) (by rw [hp]; simp)).2
      ·cases hs
     ·cases hs
    ·split at hs
     ·rename_i hc
      cases hs
      refine ⟨by have:=h.vl; omega,by simp; omega,h.w,h.ok,fun e he=>?_⟩
      rcases BE.1 he with he | he
      ·exact h.ev e he
      ·rw [Ch.1 he]
       have:=hc.1
       simp only [U0,J] at this
       exact this.2
     ·cases hs
 ·cases hs
theorem Ky {p:ByteArray} (h:p.data.toList≠[]):Ed p ⟨#[35]⟩=some (decide (p.data.toList.getD 0 0=35)):=Mi (by
 unfold HY
 have hs:=Br p
 have hl:0<p.data.toList.length:=List.length_pos_iff.2 h
 have e:BX p ⟨#[35]⟩=some (decide (p.data.toList.getD 0 0=35)):=Fv (by
  unfold Cs
  have h1:(⟨#[35]⟩:ByteArray).size=1:=rfl
  rw [if_pos (decide_eq_true (by rw [h1]; omega)),if_pos (by omega),if_pos (by rw [h1]; omega),if_pos (by rw [h1]; omega),h1,HE,show (⟨#[35]⟩:ByteArray)=HM [35] from rfl,X_]
  congr 1
  rw [Bool.eq_iff_iff,decide_eq_true_eq,decide_eq_true_eq,Ur]
  obtain ⟨b,r,hq⟩:=List.exists_cons_of_ne_nil h
  rw [hq]
  simp [QB])
 rw [e]
 rfl)
theorem Wx {p:ByteArray} {t:List ByteArray} {vs:List (List Int)} {es:List BL} (hw:∀ v∈vs,v.length<=601) (hv:vs.length<=1000) (ht:∀ a∈t,a.size<=600) :
  ∃ b st,E1 (p::t) (vs,es)=some (b,st)/\((b=true/\∃ a,t=[a]/\es.length=0/\(BC a).2=true/\At (vs++[(BC a).1]) (vs++[(BC a).1]).length (vs++[(BC a).1])=true/\st=(vs++[(BC a).1],es)) \/
   (b=false/\∀ a,t=[a]->¬ (es.length=0/\(BC a).2=true/\At (vs++[(BC a).1]) (vs++[(BC a).1]).length (vs++[(BC a).1])=true))):=by
 suffices g:∃ b st,FC (p::t) (vs,es)=some (b,st)/\((b=true/\∃ a,t=[a]/\es.length=0/\(BC a).2=true/\At (vs++[(BC a).1]) (vs++[(BC a).1]).length (vs++[(BC a).1])=true/\st=(vs++[(BC a).1],es)) \/
   (b=false/\∀ a,t=[a]->¬ (es.length=0/\(BC a).2=true/\At (vs++[(BC a).1]) (vs++[(BC a).1]).length (vs++[(BC a).1])=true))) from g.imp fun b g=>g.imp fun st g=>⟨NV g.1,g.2⟩
 unfold FC
 match t,ht with
 | [a],ht =>
  rw [if_pos (by simp)]
  by_cases he:es.length=0
  ·have ha:=ht a (by simp)
   have hlen:=Sj ha
   have hvw:Fh (vs++[(BC a).1])=some (At (vs++[(BC a).1]) (vs++[(BC a).1]).length (vs++[(BC a).1])):=Oz _ (by simp; unfold maxLen; omega) (fun v hv'=>by
    rcases BE.1 hv' with h | h
    ·have:=hw v h; unfold maxLen; omega
    ·rw [Ch.1 h]; unfold maxLen; omega)
   rw [if_neg (by rw [decide_eq_false (by show ¬ ((es.length:Int)>0); omega)]; simp)]
   cases hb:(BC a).2 with
   | true =>
    refine ⟨At (vs++[(BC a).1]) (vs++[(BC a).1]).length (vs++[(BC a).1]),(vs++[(BC a).1],es),F8 ?_,?_⟩
    ·unfold Dh
     rw [if_pos (by omega),if_pos (by simp),show ([p,a]:List ByteArray).getD (1:Int).toNat AA=a from rfl,KY a (by omega),U,if_pos (by simp; omega),if_pos hb,hvw,U]
    ·cases hq:At (vs++[(BC a).1]) (vs++[(BC a).1]).length (vs++[(BC a).1]) with
     | true=>exact .inl ⟨rfl,a,rfl,he,hb,hq,rfl⟩
     | false=>exact .inr ⟨rfl,fun a' e h=>by cases e; rw [hq] at h; cases h.2.2⟩
   | false =>
    refine ⟨false,(vs++[(BC a).1],es),F8 ?_,.inr ⟨rfl,fun a' e h=>by cases e; rw [hb] at h; cases h.2.1⟩⟩
    unfold Dh
    rw [if_pos (by omega),if_pos (by simp),show ([p,a]:List ByteArray).getD (1:Int).toNat AA=a from rfl,KY a (by omega),U,if_pos (by simp; omega),if_neg (by rw [hb]; simp)]
  ·exact ⟨false,(vs,es),by rw [if_pos (decide_eq_true (by show (es.length:Int)>0; omega))],.inr ⟨rfl,fun a' e h=>he h.1⟩⟩
 | [],_=>exact ⟨false,(vs,es),by rw [if_neg (by simp)],.inr ⟨rfl,fun a e=>by cases e⟩⟩
 | a::b::r,_=>exact ⟨false,(vs,es),by rw [if_neg (by simp<;>omega)],.inr ⟨rfl,fun a e=>by cases e⟩⟩
theorem Wy {x:ByteArray} {vs:List (List Int)} {es:List BL} (h:L9 vs es 200) :
  ∃ st,E0 x (vs,es)=some ((JZ x vs es).isSome,st)/\∀ r,JZ x vs es=some r->st=r:=by
 suffices g:∃ st,E9 x (vs,es)=some ((JZ x vs es).isSome,st)/\∀ r,JZ x vs es=some r->st=r from g.imp fun st g=>⟨NQ g.1,g.2⟩
 have hel:=h.el
 have hvl:=h.vl
 unfold E9
 rw [O7,U]
 unfold JZ
 cases h2:(HO x).2 with
 | false =>
  rw [if_pos (by simp),if_neg (by simp)]
  exact ⟨_,rfl,fun r hr=>by cases hr⟩
 | true =>
  rw [if_neg (by simp),if_pos rfl]
  have hm:=fun p=>QE (x:=x) (p:=p)
  revert hm
  generalize (HO x).1=ps
  intro hm
  match ps,hm with
  | [],_ =>
   rw [if_neg (by simp)]
   exact ⟨_,rfl,fun r hr=>by cases hr; rfl⟩
  | p::t,hm =>
   have hp:=hm p (by simp)
   have ht:∀ a∈t,a.size<=600:=fun a ha=>(hm a (by simp [ha])).2
   rw [if_pos (by simp<;>omega),if_pos (by omega),if_pos (by simp<;>omega),show (p::t).getD (0:Int).toNat AA=p from rfl,Ky hp.1,U]
   by_cases h35:p.data.toList.getD 0 0=35
   ·rw [if_pos (decide_eq_true h35)]
    simp only [h35,if_true]
    exact ⟨_,rfl,fun r hr=>by cases hr; rfl⟩
   ·rw [if_neg (by rw [decide_eq_false h35]; simp)]
    simp only [h35,if_false]
    by_cases hv:p.data.toList=[118,105,101,119]
    ·obtain ⟨b,st,e1,e2⟩:=Wx (p:=p) (t:=t) (es:=es) h.w (by omega) ht
     refine ⟨st,?_,?_⟩
     ·refine (Df (r:=(b,st)) ?_).trans ?_
      ·unfold Bm
       rw [if_pos (by omega),if_pos (by simp<;>omega),show (p::t).getD (0:Int).toNat AA=p from rfl,WC,if_pos (decide_eq_true hv),e1]
       rfl
      ·congr 2
       rcases e2 with ⟨rfl,a,rfl,q1,q2,q3,_⟩ | ⟨rfl,q⟩
       ·simp only [hv,if_true]
        rw [if_pos ⟨q1,q2,q3⟩]
        rfl
       ·simp only [hv,if_true]
        match t,q with
        | [a],q=>simp only []; rw [if_neg (q a rfl)]; rfl
        | [],_=>rfl
        | a::b::r,_=>rfl
     ·intro r hr
      simp only [hv,if_true] at hr
      rcases e2 with ⟨rfl,a,rfl,q1,q2,q3,q4⟩ | ⟨rfl,q⟩
      ·simp only [] at hr
       rw [if_pos ⟨q1,q2,q3⟩] at hr
       cases hr
       exact q4
      ·match t,q with
       | [a],q=>simp only [] at hr; rw [if_neg (q a rfl)] at hr; cases hr
       | [],_=>cases hr
       | a::b::r,_=>cases hr
    ·simp only [hv,if_false]
     by_cases hc:(U0 (Hj p.data.toList t)).2=true/\vs.length≠0/\es.length<70
     ·rw [if_pos hc]
      refine ⟨(vs,es++[(Hj p.data.toList t).1]),Df ?_,fun r hr=>by cases hr; rfl⟩
      unfold Bm
      rw [if_pos (by omega),if_pos (by simp<;>omega),show (p::t).getD (0:Int).toNat AA=p from rfl,WC,if_neg (by rw [decide_eq_false hv]; simp),JY,U,if_pos (by simp; omega),if_pos hc.1,if_pos (decide_eq_true (by omega))]
      rw [decide_eq_true (by simp; omega)]
      rfl
     ·rw [if_neg hc]
      have:∀ bb,∃ st,De (p::t) bb vs es=some (false,st):=fun bb=>by
       suffices g:∃ st,Bm (p::t) bb vs es=some (false,st) from g.imp fun st g=>Df g
       unfold Bm
       rw [if_pos (by omega),if_pos (by simp<;>omega),show (p::t).getD (0:Int).toNat AA=p from rfl,WC,if_neg (by rw [decide_eq_false hv]; simp),JY,U,if_pos (by simp; omega)]
       cases hb:(U0 (Hj p.data.toList t)).2 with
       | false=>exact ⟨_,by rw [if_neg (by simp)]⟩
       | true =>
        rw [if_pos rfl]
        by_cases h0:vs.length=0
        ·exact ⟨_,by rw [if_neg (by rw [decide_eq_false (by omega)]; simp)]⟩
        ·rw [if_pos (decide_eq_true (by omega))]
         exact ⟨_,by rw [decide_eq_false (by simp; have:¬ es.length<70:=fun h=>hc ⟨hb,h0,h⟩; omega)]⟩
      obtain ⟨st,hst⟩:=this _
      exact ⟨st,hst,fun r hr=>by cases hr⟩

abbrev UD:Type:=List (List Int)×List BL×Int
def TU:List ByteArray->Nat->List (List Int)->List BL->UD
 | [],_,vs,es=>if vs.length=0 then ([],[],1) else (vs,es,0)
 | x::t,i,vs,es=>match JZ x vs es with
  | none=>([],[],(i:Int)+1)
  | some r=>TU t (i+1) r.1 r.2
def Ca (x:ByteArray):UD:=if 4000<x.size\/100<(HN x).length then ([],[],-1) else TU (HN x) 0 [] []
theorem L9.nil (n:Nat):L9 [] [] n:=⟨Nat.zero_le _,Nat.zero_le _,fun v hv=>by simp at hv,fun h=>absurd rfl h,fun e he=>by simp at he⟩
theorem L9.up {vs:List (List Int)} {es:List BL} {n m:Nat} (h:L9 vs es n) (hm:n<=m):L9 vs es m:=⟨Nat.le_trans h.vl hm,h.el,h.w,h.ok,h.ev⟩
theorem X5:∀ (ls:List ByteArray) (i:Nat) (vs:List (List Int)) (es:List BL),L9 vs es i->(TU ls i vs es).2.2=0->Zf (TU ls i vs es).1/\(TU ls i vs es).2.1.length<=70/\∀ e∈(TU ls i vs es).2.1,T_ e=true
 | [],i,vs,es,h=>by
  unfold TU
  split
  ·intro h0; cases h0
  ·rename_i h0
   exact fun _=>⟨⟨h.ok h0⟩,h.el,h.ev⟩
 | x::t,i,vs,es,h=>by
  unfold TU
  cases hs:JZ x vs es with
  | none=>intro h0; have h0:(i:Int)+1=0:=h0; omega
  | some r=>exact X5 t (i+1) r.1 r.2 (h.step (vs':=r.1) (es':=r.2) hs)
theorem TV {ls:List ByteArray} (hl:ls.length<=100):∀ (k i:Nat) (vs:List (List Int)) (es:List BL),i+k=ls.length->L9 vs es i->Cn ls (ls.length:Int) (i:Int) [] [] vs es=some (TU (ls.drop i) i vs es)
 | 0,i,vs,es,hk,h=>by
  refine HA ?_
  unfold EJ
  rw [if_neg (by rw [decide_eq_false (by omega)]; simp),List.drop_eq_nil_of_le (by omega)]
  refine Lj ?_
  unfold G8 TU
  by_cases h0:vs.length=0
  ·rw [if_pos (by simp [h0]),if_pos h0]
  ·rw [if_neg (by simpa using h0),if_neg h0]
 | k+1,i,vs,es,hk,h=>by
  have hi:i<ls.length:=by omega
  obtain ⟨st,e1,e2⟩:=Wy (x:=ls[i]) (h.up (show i<=200 by omega))
  refine HA ?_
  unfold EJ
  rw [if_pos (decide_eq_true (by omega)),if_pos (by omega),if_pos (by omega),BG,DS hi,e1,U,Bb hi,AZ (by omega)]
  unfold TU
  cases hs:JZ ls[i] vs es with
  | none =>
   rw [if_pos (by simp)]
   rfl
  | some r =>
   rw [if_neg (by simp),e2 r hs]
   exact TV hl k (i+1) r.1 r.2 (by omega) (h.step hs)
theorem Wz {ls:List ByteArray} (hl:ls.length<=100) {i:Nat} (hi:i<ls.length) {vs:List (List Int)} {es:List BL} (h:L9 vs es i) (Q:List (List Int)×List BL->UD)
  (hn:∀ r,JZ ls[i] vs es=some r->Ap [] ls ((i+1:Nat):Int) r.1 r.2=some (Q r)) :
  Ap [] ls (i:Int) vs es=some (match JZ ls[i] vs es with
   | none=>([],[],(i:Int)+1)
   | some r=>Q r):=by
 have hel:=h.el
 have hvl:=h.vl
 have wi:IntKind.i64.wrap ((i:Int)+1)=((i+1:Nat):Int):=AZ (by omega)
 have wi2:((i+1:Nat):Int)=(i:Int)+1:=by omega
 refine G5 ?_
 unfold EI
 rw [if_pos (decide_eq_true (by omega)),if_pos (by omega),if_pos (by omega),BG,DS hi,O6,U,wi]
 unfold JZ at hn ⊢
 cases h2:(HO ls[i]).2 with
 | false =>
  rw [if_neg (by simp)]
  refine (G4 (r:=([],[],((i+1:Nat):Int))) ?_).trans ?_
  ·unfold EH
   rw [if_pos (by simp),wi]
  ·rw [wi2]; simp
 | true =>
  rw [h2] at hn
  rw [if_pos rfl]
  simp only [if_true] at hn ⊢
  have hm:=fun p=>QE (x:=ls[i]) (p:=p)
  revert hm hn
  generalize (HO ls[i]).1=ps
  intro hn hm
  match ps,hm,hn with
  | [],_,hn =>
   rw [if_neg (by simp)]
   exact hn _ rfl
  | p::t,hm,hn =>
   have hp:=hm p (by simp)
   have hps:0<p.size:=by
    have:=Br p
    have:=List.length_pos_iff.2 hp.1
    omega
   have h0:(p::t).getD (0:Int).toNat AA=p:=rfl
   rw [if_pos (by simp<;>omega),if_pos (by omega),if_pos (by simp<;>omega),if_pos (by omega),h0,if_pos (by omega),show (0:Int).toNat=0 from rfl,Z4]
   simp only [] at hn ⊢
   by_cases h35:p.data.toList.getD 0 0=35
   ·rw [if_pos (decide_eq_true h35)]
    simp only [h35,if_true] at hn ⊢
    exact hn _ rfl
   ·rw [if_neg (by rw [decide_eq_false h35]; simp)]
    simp only [h35,if_false] at hn ⊢
    have J4:p.data.toList≠[118,105,101,119]\/t.length≠1->∀ b,ED [] ls (i:Int) (p::t) b vs es=some (if (U0 (Hj p.data.toList t)).2=true/\vs.length≠0/\es.length<70 then (if p.data.toList=[118,105,101,119] then ([],[],(i:Int)+1) else Q (vs,es++[(Hj p.data.toList t).1])) else ([],[],(i:Int)+1)):=by
     intro hv b
     refine Lf ?_
     unfold G0
     rw [Nc,U,wi,wi2]
     cases hr:(Hj p.data.toList t).2 with
     | false =>
      rw [if_neg (by simp),if_neg (by unfold U0; rw [hr]; simp)]
     | true =>
      rw [if_pos (by simp),Ov,U]
      cases ho:T_ (Hj p.data.toList t).1 with
      | false=>rw [if_neg (by simp),if_neg (by unfold U0; rw [ho]; simp)]
      | true =>
       have hev:(U0 (Hj p.data.toList t)).2=true:=by unfold U0; rw [hr,ho]; rfl
       rw [if_pos (by simp)]
       by_cases hv0:vs.length=0
       ·rw [if_neg (by simp [hv0]),if_neg (fun h=>h.2.1 hv0)]
       ·rw [if_pos (by simpa using hv0)]
        by_cases h70:es.length=70
        ·rw [if_pos (by simp [h70]),if_neg (by omega)]
        ·rw [if_neg (by simp; omega),if_pos (by simp; omega),if_pos ⟨hev,hv0,by omega⟩]
         by_cases hvw:p.data.toList=[118,105,101,119]
         ·exfalso
          have e:Hj [118,105,101,119] t=(X1,false):=by
           match t with
           | []=>rfl
           | [a]=>rfl
           | a::b::r=>rfl
          rw [hvw,e] at hr
          cases hr
         ·rw [if_neg hvw]
          have:=hn (vs,es++[(Hj p.data.toList t).1]) (by simp only [hvw,if_false]; rw [if_pos ⟨hev,hv0,by omega⟩])
          rw [wi2] at this
          exact this
    refine G4 ?_
    unfold EH
    rw [if_neg (by simp),if_pos (by omega),if_pos (by simp<;>omega),h0,WC]
    by_cases hv:p.data.toList=[118,105,101,119]
    ·rw [if_pos (decide_eq_true hv)]
     simp only [hv,if_true] at hn ⊢
     refine G3 ?_
     unfold EG
     match t,hm,hn,J4 with
     | [a],hm,hn,J4 =>
      have ha:=(hm a (by simp)).2
      have hlen:=Sj ha
      have hvw:Fg (vs++[(BC a).1])=some (At (vs++[(BC a).1]) (vs++[(BC a).1]).length (vs++[(BC a).1])):=Oy _ (by simp; unfold maxLen; omega) (fun v hv'=>by
       rcases BE.1 hv' with h' | h'
       ·have:=h.w v h'; unfold maxLen; omega
       ·rw [Ch.1 h']; unfold maxLen; omega)
      rw [if_pos (by simp),if_pos (by omega),if_pos (by simp),show ([p,a]:List ByteArray).getD (1:Int).toNat AA=a from rfl,Mk a (by omega),U,if_pos (by simp; omega),wi]
      simp only [] at hn ⊢
      cases hb:(BC a).2 with
      | false =>
       rw [if_neg (by simp),if_neg (by simp),wi2]
      | true =>
       rw [if_pos (by simp)]
       by_cases he:es.length=0
       ·rw [if_pos (by rw [decide_eq_false (by omega)]),hvw,U]
        cases hq:At (vs++[(BC a).1]) (vs++[(BC a).1]).length (vs++[(BC a).1]) with
        | false=>rw [if_pos (by simp),if_neg (by simp),wi2]
        | true =>
         rw [if_neg (by simp),if_pos ⟨he,rfl,rfl⟩]
         exact hn (vs++[(BC a).1],es) (by rw [if_pos ⟨he,hb,hq⟩])
       ·rw [if_neg (by rw [decide_eq_true (by omega)]; simp),if_neg (fun h=>he h.1),wi2]
     | [],hm,hn,J4 =>
      rw [if_neg (by simp),J4 (.inr (by simp)),hv]
      simp
     | a::b::r,hm,hn,J4 =>
      rw [if_neg (by simp<;>omega),J4 (.inr (by simp)),hv]
      simp
    ·rw [if_neg (by rw [decide_eq_false hv]; simp)]
     simp only [hv,if_false] at hn ⊢
     refine G3 ?_
     unfold EG
     rw [if_neg (by simp),J4 (.inl hv)]
     split
     ·rfl
     ·rfl
theorem TW {ls:List ByteArray} (hl:ls.length<=100):∀ (k i:Nat) (vs:List (List Int)) (es:List BL),i+k=ls.length->L9 vs es i->Ap [] ls (i:Int) vs es=some (TU (ls.drop i) i vs es)
 | 0,i,vs,es,hk,h=>by
  refine G5 ?_
  unfold EI
  rw [if_neg (by rw [decide_eq_false (by omega)]; simp),List.drop_eq_nil_of_le (by omega)]
  refine Lg ?_
  unfold G1 TU
  by_cases h0:vs.length=0
  ·rw [if_pos (by simp [h0]),if_pos h0]
  ·rw [if_neg (by simpa using h0),if_neg h0]
 | k+1,i,vs,es,hk,h=>by
  have hi:i<ls.length:=by omega
  rw [Bb hi]
  unfold TU
  exact Wz hl hi h (fun r=>TU (ls.drop (i+1)) (i+1) r.1 r.2) fun r hr=>TW hl k (i+1) r.1 r.2 (by omega) (h.step hr)
theorem L_ (x:ByteArray) (hx:x.size<=1048576):Fd x=some (Ca x):=OB (by
 unfold I_ Ca
 by_cases h:4000<x.size
 ·rw [if_neg (by rw [decide_eq_true (by omega)]; simp),if_pos (.inl h)]
 ·rw [if_pos (decide_eq_false (by omega)),If x hx,U]
  by_cases hl:100<(HN x).length
  ·rw [if_pos (decide_eq_true (by omega)),if_pos (.inr hl)]
  ·rw [if_neg (by rw [decide_eq_false (by omega)]; simp),if_neg (by omega)]
   refine Lh ?_
   unfold G2
   rw [If x hx,U]
   exact TW (by omega) (HN x).length 0 [] [] (by omega) (L9.nil 0))
theorem MA (x:ByteArray) (hx:x.size<=1048576):Dn x=some (Ca x):=OC (by
 have hc:=O5 10 x.data.toList
 have hs:=Br x
 have hne:=P_ 10 x.data.toList
 have hlen:(L6 10 x).length=(cut 10 x.data.toList).length:=by simp [L6]
 have J0:Co x (HN x) [] []=some (Ca x):=Ll (by
  unfold G_ Ca
  by_cases h:4000<x.size
  ·rw [if_neg (by rw [decide_eq_true (by omega)]; simp),if_pos (.inl h)]
  ·rw [if_pos (decide_eq_false (by omega))]
   by_cases hl:100<(HN x).length
   ·rw [if_pos (decide_eq_true (by omega)),if_pos (.inr hl)]
   ·rw [if_neg (by rw [decide_eq_false (by omega)]; simp),if_neg (by omega)]
    refine Lk ?_
    unfold G9
    exact TV (by omega) (HN x).length 0 [] [] (by omega) (L9.nil 0))
 have w:IntKind.i64.wrap (((L6 10 x).length:Int)-1)=(((L6 10 x).length-1:Nat):Int):=by rw [BK (by omega)]; omega
 have hi:(L6 10 x).length-1<(L6 10 x).length:=by omega
 have hi2:(cut 10 x.data.toList).length-1<(cut 10 x.data.toList).length:=by omega
 have elast:(L6 10 x)[(L6 10 x).length-1]=HM ((cut 10 x.data.toList)[(cut 10 x.data.toList).length-1]):=by
  simp [L6]
 have el2:(cut 10 x.data.toList).getLast? = some ((cut 10 x.data.toList)[(cut 10 x.data.toList).length-1]):=by
  rw [List.getLast?_eq_getElem?,List.getElem?_eq_getElem hi2]
 unfold JA
 rw [Ej _ _ (by omega),U,w,if_pos (by omega),if_pos (by omega),BG,DS hi,elast,show (⟨#[]⟩:ByteArray)=HM [] from rfl,X_,Ur]
 by_cases he:(cut 10 x.data.toList)[(cut 10 x.data.toList).length-1]=[]
 ·rw [if_pos (decide_eq_true he),if_pos (by omega),if_pos (by omega),if_pos (by omega)]
  have e:((L6 10 x).take ((L6 10 x).length-1)).drop (0:Int).toNat=HN x:=by
   unfold HN
   rw [NZ hne,el2,he,if_pos rfl]
   simp [L6,List.dropLast_eq_take,List.map_take]
  rw [e]
  exact J0
 ·rw [if_neg (by rw [decide_eq_false he]; simp)]
  have e:L6 10 x=HN x:=by
   unfold HN
   rw [NZ hne,el2,if_neg (by simpa using he)]
   rfl
  rw [e]
  exact J0)
theorem W0 {x:ByteArray} (h:(Ca x).2.2=0):Zf (Ca x).1/\(Ca x).2.1.length<=70/\∀ e∈(Ca x).2.1,T_ e=true:=by
 unfold Ca at h ⊢
 split at h
 ·cases h
 ·rename_i hc
  rw [if_neg hc]
  exact X5 _ 0 [] [] (L9.nil 0) h

theorem Sk {α:Type} {p r:List α} {v w:α} {i:Nat} (h:p.length=i):(p++v::r).set i w=p++w::r:=by
 subst h
 rw [List.set_append_right _ _ (Nat.le_refl _),Nat.sub_self,List.set_cons_zero]
theorem MB {α:Type} {p r:List α} {v d:α} {i:Nat} (h:p.length=i):(p++v::r).getD i d=v:=by
 subst h
 simp [List.getD]
theorem Z9 {k:Int} (h0:0<=k) (h1:k<=9223372036854775807):IntKind.i64.wrap (Int.tdiv k 10)=k / 10:=by
 rw [Int.tdiv_eq_ediv_of_nonneg h0,BK (by omega)]
theorem Sl:∀ (n:Nat) (k:Int) (s:ByteArray),0<=k->k<10^n->k<=9223372036854775807->s.size+n<=1000->∃ r,DP k s=some r
 | 0,k,s,h0,h1,h2,h3=>by
  have:k=0:=by simp at h1; omega
  subst this
  refine ⟨(⟨#[109]⟩:ByteArray)++s,FA ?_⟩
  unfold DQ
  rw [if_neg (by decide),if_pos (by
   have:(⟨#[109]⟩:ByteArray).size=1:=rfl
   omega)]
 | n+1,k,s,h0,h1,h2,h3=>by
  by_cases hk:k>0
  ·have hs:∀ d:Int,(Dj ([d]:List Int)).size=1:=fun d=>rfl
   obtain ⟨r,hr⟩:=Sl n (k / 10) (Dj ([(IntKind.u8.wrap (IntKind.i64.wrap (48+(Int.tmod k 10))))]:List Int)++s) (by omega) (by rw [Int.pow_succ] at h1; omega) (by omega) (by rw [ByteArray.size_append,hs]; omega)
   refine ⟨r,FA ?_⟩
   unfold DQ
   rw [if_pos (by simpa using hk),if_neg (by decide),if_pos (by rw [hs]; omega),if_neg (by decide),Z9 h0 h2]
   exact hr
  ·have:k=0:=by omega
   subst this
   refine ⟨(⟨#[109]⟩:ByteArray)++s,FA ?_⟩
   unfold DQ
   rw [if_neg (by decide),if_pos (by
    have:(⟨#[109]⟩:ByteArray).size=1:=rfl
    omega)]
noncomputable def TX (k:Int):ByteArray:=(Bg k).getD AA
theorem DU {k:Int} (h:k<=9223372036854775807):Bg k=some (TX k):=by
 have:∃ r,Bg k=some r:=by
  by_cases h0:k<=0
  ·refine ⟨(⟨#[109,48]⟩:ByteArray),LB ?_⟩
   unfold HJ
   rw [if_pos (by simpa using h0)]
  ·obtain ⟨r,hr⟩:=Sl 19 k ⟨#[]⟩ (by omega) (by omega) h (by decide)
   refine ⟨r,LB ?_⟩
   unfold HJ
   rw [if_neg (by simpa using h0)]
   exact hr
 obtain ⟨r,hr⟩:=this
 unfold TX
 rw [hr]
 rfl

def KZ {α:Type} (M:Int->α->Option (Int×α)) (H:α->Int->Option Int) (w:Nat) (x:α):Prop :=
 ∀ k:Int,0<=k->k+(w:Int)<=1152921504606846976->∃ k' y,M k x=some (k',y)/\k<=k'/\k'<=k+(w:Int)/\H y k=some k'
theorem KZ.up {α:Type} {M:Int->α->Option (Int×α)} {H:α->Int->Option Int} {w w':Nat} {x:α} (h:KZ M H w x) (hw:w<=w'):KZ M H w' x:=fun k h0 h1=>by
 obtain ⟨k',y,a,b,c,d⟩:=h k h0 (by omega)
 exact ⟨k',y,a,b,by omega,d⟩
theorem Sm {α:Type} {M:Int->α->Option (Int×α)} {H:α->Int->Option Int} {w:Nat} {LM:Int->Int->List α->Option (Int×List α)} {LH:List α->Int->Int->Option Int}
  (hM0:∀ k (ys:List α),LM k (ys.length:Int) ys=some (k,ys)) (hH0:∀ k (ys:List α),LH ys k (ys.length:Int)=some k)
  (hM:∀ k k' (p:List α) v r y s,p.length+r.length<=4611686018427387904->0<=k->k<=2305843009213693952->M k v=some (k',y)->LM k' ((p.length+1:Nat):Int) (p++y::r)=some s->LM k (p.length:Int) (p++v::r)=some s)
  (hH:∀ k k' (p:List α) v r s,p.length+r.length<=4611686018427387904->0<=k->0<=k'->k<=2305843009213693952->H v k=some k'->LH (p++v::r) k' ((p.length+1:Nat):Int)=some s->LH (p++v::r) k (p.length:Int)=some s) :
  ∀ (r p:List α) (k:Int),(∀ x∈r,KZ M H w x)->0<=k->k+(w:Int)*(r.length:Int)<=1152921504606846976->p.length+r.length<=4611686018427387904 ->
   ∃ k' z,LM k (p.length:Int) (p++r)=some (k',p++z)/\z.length=r.length/\k<=k'/\k'<=k+(w:Int)*(r.length:Int)/\LH (p++z) k (p.length:Int)=some k'
 | [],p,k,hx,h0,h1,h2=>⟨k,[],by rw [List.append_nil]; exact hM0 k p,rfl,by omega,by simp,by rw [List.append_nil]; exact hH0 k p⟩
 | v::r,p,k,hx,h0,h1,h2=>by
  simp only [List.length_cons,Int.natCast_add,Int.mul_add] at h1 h2
  have hw0:(0:Int)<=(w:Int)*(r.length:Int):=Int.mul_nonneg (by omega) (by omega)
  obtain ⟨k1,y,a,b,c,d⟩:=hx v (by simp) k h0 (by omega)
  obtain ⟨k',z,e1,e2,e3,e4,e5⟩:=Sm hM0 hH0 hM hH r (p++[y]) k1 (fun x h=>hx x (by simp [h])) (by omega) (by omega) (by simp; omega)
  simp only [List.length_append,List.length_cons,List.length_nil,Bi,List.cons_append,List.nil_append,Nat.zero_add] at e1 e5
  refine ⟨k',y::z,hM k k1 p v r y _ (by omega) h0 (by omega) a e1,by simp [e2],by omega,by simp only [List.length_cons,Int.natCast_add,Int.mul_add]; omega,hH k k1 p y z k' (by omega) h0 (by omega) (by omega) d e5⟩
theorem KZ.of_list {α:Type} {M:Int->α->Option (Int×α)} {H:α->Int->Option Int} {w:Nat} {LM:Int->Int->List α->Option (Int×List α)} {LH:List α->Int->Int->Option Int} {FM:Int->List α->Option (Int×List α)} {FH:List α->Int->Option Int}
  (hM0:∀ k (ys:List α),LM k (ys.length:Int) ys=some (k,ys)) (hH0:∀ k (ys:List α),LH ys k (ys.length:Int)=some k)
  (hM:∀ k k' (p:List α) v r y s,p.length+r.length<=4611686018427387904->0<=k->k<=2305843009213693952->M k v=some (k',y)->LM k' ((p.length+1:Nat):Int) (p++y::r)=some s->LM k (p.length:Int) (p++v::r)=some s)
  (hH:∀ k k' (p:List α) v r s,p.length+r.length<=4611686018427387904->0<=k->0<=k'->k<=2305843009213693952->H v k=some k'->LH (p++v::r) k' ((p.length+1:Nat):Int)=some s->LH (p++v::r) k (p.length:Int)=some s)
  (hf:∀ k xs r,LM k 0 xs=some r->FM k xs=some r) (hg:∀ ys k r,LH ys k 0=some r->FH ys k=some r) {xs:List α} (n:Nat) (hn:xs.length<=n) (hl:xs.length<=4611686018427387904) (hx:∀ x∈xs,KZ M H w x) :
  KZ FM FH (w*n) xs:=fun k h0 h1=>by
 have hle:w*xs.length<=w*n:=Nat.mul_le_mul (Nat.le_refl _) hn
 have hle2:(w:Int)*(xs.length:Int)=((w*xs.length:Nat):Int):=by push_cast; rfl
 obtain ⟨k',z,e1,e2,e3,e4,e5⟩:=Sm hM0 hH0 hM hH xs [] k hx h0 (by omega) (by simp; omega)
 exact ⟨k',z,hf k xs _ e1,e3,by omega,hg z k k' e5⟩
theorem VZ {xs:List Int} (n:Nat) (hn:xs.length<=n) (hl:xs.length<=4611686018427387904):KZ Eu Ew (1*n) xs :=
 KZ.of_list (M:=fun k _=>some (k+1,k)) (H:=fun v k=>if v=k then some (k+1) else none) (LM:=DO) (LH:=DR)
  (fun k ys=>Ia (by unfold E_; rw [if_neg (by simp)]))
  (fun k ys=>Ib (by unfold FB; rw [if_neg (by simp)]))
  (fun k k' p v r y s h1 h2 h3 h4 h5=>Ia (by
   cases h4
   unfold E_
   rw [if_pos (by simp; omega),if_pos (by omega),if_pos (by simp; omega),BG]
   simp only [Sk rfl,AZ (show p.length<9223372036854775807 by omega),show IntKind.i64.wrap (k+1)=k+1 from BK (by omega)]
   exact h5))
  (fun k k' p v r s h1 h2 h3 h4 h5 h6=>Ib (by
   split at h5
   ·rename_i e
    cases h5
    unfold FB
    rw [if_pos (by simp; omega),if_pos (by omega),if_pos (by simp; omega),BG]
    simp only [MB rfl,AZ (show p.length<9223372036854775807 by omega),show IntKind.i64.wrap (k+1)=k+1 from BK (by omega)]
    rw [if_neg (by simp [e])]
    exact h6
   ·cases h5))
  (fun k xs r h=>Qu h) (fun ys k r h=>Qw h) n hn hl
  (fun x _ k h0 h1=>⟨k+1,k,rfl,by omega,by omega,by simp⟩)
theorem Uu {xs:List (List Int)} (m n:Nat) (hn:xs.length<=n) (hl:xs.length<=4611686018427387904) (hm:∀ x∈xs,x.length<=m/\x.length<=4611686018427387904):KZ GK EZ (1*m*n) xs :=
 KZ.of_list (M:=Eu) (H:=Ew) (LM:=C2) (LH:=C3)
  (fun k ys=>HU (by unfold Eg; rw [if_neg (by simp)]))
  (fun k ys=>HV (by unfold Eh; rw [if_neg (by simp)]))
  (fun k k' p v r y s h1 h2 h3 h4 h5=>HU (by
   unfold Eg
   rw [if_pos (by simp; omega),if_pos (by omega),if_pos (by simp; omega),BG]
   simp only [MB rfl,h4,U,Sk rfl,AZ (show p.length<9223372036854775807 by omega)]
   exact h5))
  (fun k k' p v r s h1 h2 h3 h4 h5 h6=>HV (by
   unfold Eh
   rw [if_pos (by simp; omega),if_pos (by omega),if_pos (by simp; omega),BG]
   simp only [MB rfl,h5,U,AZ (show p.length<9223372036854775807 by omega)]
   rw [if_neg (by simpa using h3)]
   exact h6))
  (fun k xs r h=>Ph h) (fun ys k r h=>Pj h) n hn hl
  (fun x hx=>VZ m (hm x hx).1 (hm x hx).2)
theorem UE {xs:List BL} (n:Nat) (hn:xs.length<=n) (hl:xs.length<=4611686018427387904):KZ Ff Do (6*n) xs :=
 KZ.of_list (M:=fun k _=>some (k+6,(k,k+1,k+2,k+3,TX (k+4),TX (k+5)))) (H:=fun v k=>if v=(k,k+1,k+2,k+3,TX (k+4),TX (k+5)) then some (k+6) else none) (LM:=Cp) (LH:=Cq)
  (fun k ys=>HB (by unfold EK; rw [if_neg (by simp)]))
  (fun k ys=>HC (by unfold EL; rw [if_neg (by simp)]))
  (fun k k' p v r y s h1 h2 h3 h4 h5=>HB (by
   cases h4
   unfold EK
   have w1:IntKind.i64.wrap (k+1)=k+1:=BK (by omega)
   have w2:IntKind.i64.wrap (k+1+1)=k+2:=by rw [BK (by omega)]; omega
   have w3:IntKind.i64.wrap (k+2+1)=k+3:=by rw [BK (by omega)]; omega
   have w4:IntKind.i64.wrap (k+3+1)=k+4:=by rw [BK (by omega)]; omega
   have w5:IntKind.i64.wrap (k+4+1)=k+5:=by rw [BK (by omega)]; omega
   have w6:IntKind.i64.wrap (k+5+1)=k+6:=by rw [BK (by omega)]; omega
   have hl:∀ m:BL,((p.length:Int)<((p++m::r).length:Int)):=fun m=>by simp only [List.length_append,List.length_cons]; omega
   simp only [hl,decide_true,if_true,show (0:Int)<=(p.length:Int) from by omega,DU (show k+4<=9223372036854775807 by omega),DU (show k+5<=9223372036854775807 by omega),U,w1,w2,w3,w4,w5,w6,BG,Sk rfl,MB rfl,AZ (show p.length<9223372036854775807 by omega)]
   exact h5))
  (fun k k' p v r s h1 h2 h3 h4 h5 h6=>HC (by
   split at h5
   ·rename_i e
    subst e
    cases h5
    unfold EL
    have w1:IntKind.i64.wrap (k+1)=k+1:=BK (by omega)
    have w2:IntKind.i64.wrap (k+1+1)=k+2:=by rw [BK (by omega)]; omega
    have w3:IntKind.i64.wrap (k+2+1)=k+3:=by rw [BK (by omega)]; omega
    have w4:IntKind.i64.wrap (k+3+1)=k+4:=by rw [BK (by omega)]; omega
    have w5:IntKind.i64.wrap (k+4+1)=k+5:=by rw [BK (by omega)]; omega
    have w6:IntKind.i64.wrap (k+5+1)=k+6:=by rw [BK (by omega)]; omega
    have hl:∀ m:BL,((p.length:Int)<((p++m::r).length:Int)):=fun m=>by simp only [List.length_append,List.length_cons]; omega
    simp only [hl,decide_true,if_true,show (0:Int)<=(p.length:Int) from by omega,DU (show k+4<=9223372036854775807 by omega),DU (show k+5<=9223372036854775807 by omega),U,w1,w2,w3,w4,w5,w6,BG,MB rfl,AZ (show p.length<9223372036854775807 by omega),bne_self_eq_false,beq_self_eq_true,Bool.not_true,Bool.false_eq_true,if_false]
    exact h6
   ·cases h5))
  (fun k xs r h=>OJ h) (fun ys k r h=>OL h) n hn hl
  (fun x _ k h0 h1=>⟨k+6,_,rfl,by omega,by omega,by simp⟩)

theorem Uv:∀ (ls:List ByteArray) (i:Nat) (vs:List (List Int)) (es:List BL),(TU ls i vs es).2.2=0\/((TU ls i vs es).1=[]/\(TU ls i vs es).2.1=[])
 | [],i,vs,es=>by
  unfold TU
  split
  ·exact .inr ⟨rfl,rfl⟩
  ·exact .inl rfl
 | x::t,i,vs,es=>by
  unfold TU
  cases hs:JZ x vs es with
  | none=>exact .inr ⟨rfl,rfl⟩
  | some r=>exact Uv t (i+1) r.1 r.2
theorem Uw (x:ByteArray):((Ca x).1.length<=9/\∀ v∈(Ca x).1,v.length<=4)/\(Ca x).2.1.length<=70:=by
 by_cases h:(Ca x).2.2=0
 ·obtain ⟨h1,h2,_⟩:=W0 h
  exact ⟨⟨h1.len.2,fun v hv=>(h1.view hv).2⟩,h2⟩
 ·have:(Ca x).1=[]/\(Ca x).2.1=[]:=by
   unfold Ca at h ⊢
   split
   ·exact ⟨rfl,rfl⟩
   ·rename_i hc
    rw [if_neg hc] at h
    exact (Uv _ 0 [] []).resolve_left h
  rw [this.1,this.2]
  exact ⟨⟨by simp,by simp⟩,by simp⟩
theorem LN (x0) (hx0:Kd.ok .str x0):En x0=some true:=Jl (by
 unfold Eo
 by_cases hx:1048576<x0.size
 ·rw [if_pos (decide_eq_true (by omega))]
 rw [if_neg (by rw [decide_eq_false (by omega)]; simp)]
 have ei:=MA x0 (by omega)
 have es:=L_ x0 (by omega)
 obtain ⟨⟨r1,r2⟩,r3⟩:=Uw x0
 generalize Ca x0=s at ei es r1 r2 r3
 obtain ⟨vs,evs,c⟩:=s
 simp only at r1 r2 r3
 have ev:=Q1 vs ⟨by omega,fun a ha=>⟨by have:=r2 a ha; omega,fun _ _=>trivial⟩⟩
 have ee:=P9 evs ⟨by omega,fun a ha=>by simp [Kd.small]⟩
 obtain ⟨k1,y1,a1,b1,c1,d1⟩:=Uu 4 9 r1 (by omega) (fun v hv=>⟨r2 v hv,by have:=r2 v hv; omega⟩) 1 (by omega) (by omega)
 obtain ⟨k2,y2,a2,b2,c2,d2⟩:=UE 70 r3 (by omega) k1 (by omega) (by omega)
 simp only [ei,es,U,ev,ee,Bool.not_true,if_true,bne_self_eq_false,Bool.false_eq_true,if_false]
 refine Hi ?_
 unfold Ds
 simp only [a1,a2,d1,d2,ei,U,ev,ee,Bool.not_true,if_true,bne_self_eq_false,Bool.false_eq_true,if_false]
 rw [if_neg (by simp; omega),if_neg (by simp; omega)]
 refine Hh ?_
 unfold Dr
 simp only [d1,d2,U,bne_self_eq_false,Bool.false_eq_true,if_false]
 rw [if_neg (by simp; omega),if_neg (by simp; omega)])

theorem X6 {P:Program} {c:List Char} {rest:List (List Char)} (h:behindMainWord (wordsSigns P.initOrder.toList)=c::rest) (h1:(c == "gc".toList||c == "spec".toList)=false) (h2:(c == "cut".toList||(c == "finals".toList&&rest.head? == some "cut".toList))=true):P.make=some .cut:=by
 unfold Program.make
 rw [h]
 simp only [h1,h2]
 rfl
theorem X7 {P:Program} {c:List Char} {rest:List (List Char)} (h:behindMainWord (wordsSigns P.initOrder.toList)=c::rest) (h1:((stripLifts liftWords (c::rest)).2.head? == some "cut".toList)=true) (h2:(stripLifts liftWords (c::rest)).1=[])
  (h3:P.laysLater=false) (h4:P.bearsReflect=false) (h5:P.doorFits []=true):P.mayEnter=true:=by
 unfold Program.mayEnter
 rw [h]
 simp only [h1,h2,h3,h4,h5]
 simp
theorem X8 {P:Program} {c:List Char} {rest:List (List Char)} (h:behindMainWord (wordsSigns P.initOrder.toList)=c::rest) (h1:(c == "carried".toList)=false) (h2:(stripLifts liftWords (c::rest)).1=[]):P.liftsFinal=false:=by
 have e:(some c==some "carried".toList)=false:=h1
 unfold Program.liftsFinal Program.headLifts
 rw [h]
 simp only [List.head?_cons,e,h2]
 simp
theorem FD {a b:Bool} (h:a=true) (g:b=true):(a&&b)=true:=by rw [h,g]; rfl
theorem X9 {α:Type} [BEq α] [LawfulBEq α] {a b:α} (h:a=b):(a==b)=true:=by rw [h]; exact beq_self_eq_true b
end Go.Proofs.YtfcgblnlopemkaaDoor.Core

namespace Go.Proofs.YtfcgblnlopemkaaDoor.Core
open Go
set_option maxRecDepth 100000
def aU:List Nat:=[104,97,114,110,101,115,115,32,51,50,52,97,99,54,56,99,50,48,52,51,49,102,54,101,55,101,54,99,55,99,49,50,101,99,53,54,101,98,97,99,52,50,54,49,102,51,98,51,102,53,57,51,51,55,54,48,51,50,99,48,49,100,53,48,52,55,102,98,50,102,98,55,32,99,117,116,32,97,116,32,108,111,111,112,46,101,120,97,109,112,108,101,47,103,48,48,49,56,48,47,108,97,119,115,46,70,110,69,120,97,99,116,82,101,97,100,83,99,114,105,112,116]
def ah:List Nat:=[99,117,116]
def ak:List (List Nat):=[[97,116],[108,111,111,112,46,101,120,97,109,112,108,101,47,103,48,48,49,56,48,47,108,97,119,115,46,70,110,69,120,97,99,116,82,101,97,100,83,99,114,105,112,116]]
theorem io:Tryd.prog.initOrder.toList=aU.map Char.ofNat:=(congrArg String.toList (show Tryd.prog.initOrder=String.ofList (aU.map Char.ofNat) from by kernel_rfl)).trans String.toList_ofList
theorem aR:behindMainWord (wordsSigns Tryd.prog.initOrder.toList)=ah.map Char.ofNat::ak.map fun w=>w.map Char.ofNat:=by
 rw [io]
 kernel_rfl
theorem aS:Tryd.prog.make=some .cut:=X6 aR (by kernel_rfl) (by kernel_rfl)
theorem Zj:Tryd.prog.mayEnter=true:=X7 aR (by kernel_rfl) (by kernel_rfl) (by kernel_rfl) (by kernel_rfl) (by kernel_rfl)
theorem Y1:Tryd.prog.liftsFinal=false:=X8 aR (by kernel_rfl) (by kernel_rfl)
theorem Ux:laidOutB Tryd.prog=true:=by kernel_rfl
theorem Va:mapsRowed Tryd.prog=true:=by kernel_rfl
theorem Zk:Tryd.prog.stopsHeard=true:=by kernel_rfl
end Go.Proofs.YtfcgblnlopemkaaDoor.Core
