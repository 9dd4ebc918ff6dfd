/- Texts of the proof, packed: part 5. -/
import Derived.Test.YtfcgblnlopemkaaGreatDoorP3
set_option linter.unusedVariables false
set_option linter.unusedSimpArgs false
namespace Go.Proofs.YtfcgblnlopemkaaGreatDoor.Core
open Go
abbrev ACi:Type:=Int×Int×Int×(ByteArray×ByteArray×Int)×List Int
abbrev AI:Type:=Int×Int×Bool×Bool×Bool×Bool×List Int×List (ByteArray×ByteArray×Int)×Int×ACi
def GG (v:List Int) (i:Nat):Nat->Bool
 | 0=>true
 | k+1=>(decide (1<=v.getD i 0)&&decide (v.getD i 0<=6))&&(decide (i=0)||decide (v.getD (i-1) 0<v.getD i 0))&&GG v (i+1) k
theorem Z2 (x:List Int) (h:x.length<=maxLen):Dm x=some (GG x 0 x.length):=yU (by
 have hm:x.length<=9223372036854775807:=h
 unfold jY
 have:=Jy (n:=x.length) (P:=fun i=>IB x (i:Int)=some (GG x i (x.length-i))) (Zr (by
  unfold QH
  rw [if_neg (by simp),Nat.sub_self]
  rfl)) (fun i hi ih=>Zr (by
  unfold QH
  have e:x.length-i=(x.length-(i+1))+1:=by omega
  simp only [show ((i:Int)<(x.length:Int)) from by omega,decide_true,if_true,show (0:Int)<=(i:Int) from by omega,Ab,AO (show i<9223372036854775807 by omega),ih,BX,AA]
  rw [e,GG]
  generalize (decide (1<=x.getD i 0)&&decide (x.getD i 0<=6))=a
  cases a
  ·simp
  by_cases h0:0<i
  ·rw [hO (by omega) h0]
   simp only [Ab,show ((0:Int)<=((i-1:Nat):Int)) from by omega,show (((i-1:Nat):Int)<(x.length:Int)) from by omega,if_true]
   rcases Int.lt_or_le (x.getD (i-1) 0) (x.getD i 0) with hb | hb
   ·have d1:decide (x.getD (i-1) 0>=x.getD i 0)=false:=decide_eq_false (by omega)
    have d2:decide (x.getD (i-1) 0<x.getD i 0)=true:=decide_eq_true hb
    simp only [d1,d2]
    simp [h0,show i≠0 by omega]
   ·have d1:decide (x.getD (i-1) 0>=x.getD i 0)=true:=decide_eq_true (by omega)
    have d2:decide (x.getD (i-1) 0<x.getD i 0)=false:=decide_eq_false (by omega)
    simp only [d1,d2]
    simp [h0,show i≠0 by omega]
  ·have:i=0:=by omega
   subst this
   simp)) 0 (by omega)
 simpa using this)
theorem Pm (x:List Int) (h:x.length<=maxLen):Ic x 1 6=some (GG x 0 x.length):=lI (by
 have hm:x.length<=9223372036854775807:=h
 unfold U7
 have:=Jy (n:=x.length) (P:=fun i=>EK x 1 6 x (x.length:Int) (i:Int)=some (GG x i (x.length-i))) (Pf (by
  unfold JJ
  rw [if_neg (by simp),Nat.sub_self]
  rfl)) (fun i hi ih=>Pf (by
  unfold JJ
  have e:x.length-i=(x.length-(i+1))+1:=by omega
  simp only [show ((i:Int)<(x.length:Int)) from by omega,decide_true,if_true,show (0:Int)<=(i:Int) from by omega,Ab,AO (show i<9223372036854775807 by omega),ih,BI,AA]
  rw [e,GG]
  generalize (decide (1<=x.getD i 0)&&decide (x.getD i 0<=6))=a
  cases a
  ·simp
  by_cases h0:0<i
  ·rw [hO (by omega) h0]
   simp only [Ab,show ((0:Int)<=((i-1:Nat):Int)) from by omega,show (((i-1:Nat):Int)<(x.length:Int)) from by omega,if_true]
   rcases Int.lt_or_le (x.getD (i-1) 0) (x.getD i 0) with hb | hb
   ·have d1:decide (x.getD i 0<=x.getD (i-1) 0)=false:=decide_eq_false (by omega)
    have d2:decide (x.getD (i-1) 0<x.getD i 0)=true:=decide_eq_true hb
    simp only [d1,d2]
    simp [h0,show i≠0 by omega]
   ·have d1:decide (x.getD i 0<=x.getD (i-1) 0)=true:=decide_eq_true (by omega)
    have d2:decide (x.getD (i-1) 0<x.getD i 0)=false:=decide_eq_false (by omega)
    simp only [d1,d2]
    simp [h0,show i≠0 by omega]
  ·have:i=0:=by omega
   subst this
   simp)) 0 (by omega)
 simpa using this)
def LP (t:ACi):Bool:=(t.1==0)&&(t.2.1==0)&&(t.2.2.1==0)&&dy (.pair .str (.pair .str (.int .i64))) t.2.2.2.1 (U,U,(0:Int))&&((t.2.2.2.2.length:Int)==0)
def GH (t:ACi) (serves:Bool):Bool:=(t.1==1||t.1==2)&&serves&&(decide (0<=t.2.1)&&decide (t.2.1<=1000))&&(decide (1<=t.2.2.1)&&decide (t.2.2.1<=900))
def Z3 (x:AI):Bool :=
 (decide (1<=x.1)&&decide (x.1<=6))&&(decide (1<=x.2.1)&&decide (x.2.1<=9))&&(!x.2.2.2.2.2.1||(x.2.2.2.1&&x.2.2.2.2.1&&!decide ((x.2.2.2.2.2.2.1.length:Int)>0)))&&(!x.2.2.1||(!x.2.2.2.1&&!x.2.2.2.2.1)) &&
  GG x.2.2.2.2.2.2.1 0 x.2.2.2.2.2.2.1.length&&GG x.2.2.2.2.2.2.2.2.2.2.2.2.2 0 x.2.2.2.2.2.2.2.2.2.2.2.2.2.length&&CU x.2.2.2.2.2.2.2.1 0 x.2.2.2.2.2.2.2.1.length&&(decide (0<=x.2.2.2.2.2.2.2.2.1)&&decide (x.2.2.2.2.2.2.2.2.1<=900)) &&
  (LP x.2.2.2.2.2.2.2.2.2||GH x.2.2.2.2.2.2.2.2.2 x.2.2.2.2.2.1)
theorem i8 (t:ACi):P4 t=some (LP t):=rC (by
 unfold Zs LP
 generalize (t.1==0)=a
 generalize (t.2.1==0)=b
 generalize (t.2.2.1==0)=c
 generalize dy (.pair .str (.pair .str (.int .i64))) t.2.2.2.1 (U,U,(0:Int))=d
 cases a<;>cases b<;>cases c<;>cases d<;>simp)
theorem lL (x:AI) (h1:x.2.2.2.2.2.2.1.length<=maxLen) (h2:x.2.2.2.2.2.2.2.1.length<=maxLen) (h3:x.2.2.2.2.2.2.2.2.2.2.2.2.2.length<=maxLen):Gd x=some (Z3 x):=tX (by
 have w0:∀ b,EW b x=some (LP x.2.2.2.2.2.2.2.2.2||GH x.2.2.2.2.2.2.2.2.2 x.2.2.2.2.2.1):=fun b=>lE (by
  unfold U6 GH
  simp only [BX,i8,AA]
  generalize LP x.2.2.2.2.2.2.2.2.2=a
  generalize (x.2.2.2.2.2.2.2.2.2.1==1)=b
  generalize (x.2.2.2.2.2.2.2.2.2.1==2)=c
  generalize x.2.2.2.2.2.1=d
  generalize (decide (0<=x.2.2.2.2.2.2.2.2.2.2.1)&&decide (x.2.2.2.2.2.2.2.2.2.2.1<=1000))=e
  generalize (decide (1<=x.2.2.2.2.2.2.2.2.2.2.2.1)&&decide (x.2.2.2.2.2.2.2.2.2.2.2.1<=900))=f
  cases a<;>cases b<;>cases c<;>cases d<;>cases e<;>simp)
 unfold dB Z3
 simp only [BX,Z2 _ h1,Z2 _ h3,Ju _ h2,AA,w0]
 generalize (decide (1<=x.1)&&decide (x.1<=6))=a
 generalize (decide (1<=x.2.1)&&decide (x.2.1<=9))=b
 generalize decide ((x.2.2.2.2.2.2.1.length:Int)>0)=c
 generalize GG x.2.2.2.2.2.2.1 0 x.2.2.2.2.2.2.1.length=d
 generalize GG x.2.2.2.2.2.2.2.2.2.2.2.2.2 0 x.2.2.2.2.2.2.2.2.2.2.2.2.2.length=e
 generalize CU x.2.2.2.2.2.2.2.1 0 x.2.2.2.2.2.2.2.1.length=f
 generalize (decide (0<=x.2.2.2.2.2.2.2.2.1)&&decide (x.2.2.2.2.2.2.2.2.1<=900))=g
 generalize (LP x.2.2.2.2.2.2.2.2.2||GH x.2.2.2.2.2.2.2.2.2 x.2.2.2.2.2.1)=t
 generalize x.2.2.2.2.2.1=s
 generalize x.2.2.2.2.1=l
 generalize x.2.2.2.1=m
 generalize x.2.2.1=n
 cases a
 ·simp
 cases b
 ·simp
 cases d<;>cases e<;>cases f<;>cases g<;>cases s<;>cases n<;>cases m<;>cases l<;>cases c<;>simp)
theorem Z4 (x:AI) (h3:x.2.2.2.2.2.2.2.2.2.2.2.2.2.length<=maxLen):De x=some (GG x.2.2.2.2.2.2.2.2.2.2.2.2.2 0 x.2.2.2.2.2.2.2.2.2.2.2.2.2.length&&(LP x.2.2.2.2.2.2.2.2.2||GH x.2.2.2.2.2.2.2.2.2 x.2.2.2.2.2.1),x):=gJ (by
 unfold RN LP GH
 simp only [BI,Pm _ h3,AA]
 by_cases hk:x.2.2.2.2.2.2.2.2.2.1=0
 ·rw [if_pos (by simp [hk])]
  have k1:(x.2.2.2.2.2.2.2.2.2.1==1)=false:=by simp [hk]
  have k2:(x.2.2.2.2.2.2.2.2.2.1==2)=false:=by simp [hk]
  have k0:(x.2.2.2.2.2.2.2.2.2.1==0)=true:=by simp [hk]
  rw [k1,k2,k0]
  have hl:((x.2.2.2.2.2.2.2.2.2.2.2.2.2.length:Int)==0)=true->GG x.2.2.2.2.2.2.2.2.2.2.2.2.2 0 x.2.2.2.2.2.2.2.2.2.2.2.2.2.length=true:=by
   intro h
   have:x.2.2.2.2.2.2.2.2.2.2.2.2.2.length=0:=by simpa using h
   rw [this]
   rfl
  generalize ((x.2.2.2.2.2.2.2.2.2.2.2.2.2.length:Int)==0)=l at hl
  generalize GG x.2.2.2.2.2.2.2.2.2.2.2.2.2 0 x.2.2.2.2.2.2.2.2.2.2.2.2.2.length=u at hl
  generalize (x.2.2.2.2.2.2.2.2.2.2.1==0)=b
  generalize (x.2.2.2.2.2.2.2.2.2.2.2.1==0)=c
  generalize dy (.pair .str (.pair .str (.int .i64))) x.2.2.2.2.2.2.2.2.2.2.2.2.1 (U,U,(0:Int))=d
  cases b<;>cases c<;>cases d<;>cases l<;>cases u<;>simp at hl ⊢
 ·rw [if_neg (by simp [hk])]
  have k0:(x.2.2.2.2.2.2.2.2.2.1==0)=false:=by simp [hk]
  have k12:(decide (1<=x.2.2.2.2.2.2.2.2.2.1)&&decide (x.2.2.2.2.2.2.2.2.2.1<=2))=(x.2.2.2.2.2.2.2.2.2.1==1||x.2.2.2.2.2.2.2.2.2.1==2):=by
   rw [Bool.eq_iff_iff]
   simp
   omega
  rw [k12,k0]
  generalize (x.2.2.2.2.2.2.2.2.2.1==1||x.2.2.2.2.2.2.2.2.2.1==2)=k
  generalize GG x.2.2.2.2.2.2.2.2.2.2.2.2.2 0 x.2.2.2.2.2.2.2.2.2.2.2.2.2.length=u
  generalize (decide (0<=x.2.2.2.2.2.2.2.2.2.2.1)&&decide (x.2.2.2.2.2.2.2.2.2.2.1<=1000))=e
  generalize (decide (1<=x.2.2.2.2.2.2.2.2.2.2.2.1)&&decide (x.2.2.2.2.2.2.2.2.2.2.2.1<=900))=f
  cases k<;>cases u<;>cases e<;>cases f<;>rcases Bool.eq_false_or_eq_true x.2.2.2.2.2.1 with hs | hs<;>simp [hs])
theorem lM (x:AI) (h1:x.2.2.2.2.2.2.1.length<=maxLen) (h2:x.2.2.2.2.2.2.2.1.length<=maxLen) (h3:x.2.2.2.2.2.2.2.2.2.2.2.2.2.length<=maxLen):Gc x=some (Z3 x):=tU (by
 have w0:∀ b,Mr b x=some ((!x.2.2.2.2.2.1||(x.2.2.2.1&&x.2.2.2.2.1&&!decide ((x.2.2.2.2.2.2.1.length:Int)>0)))&&(!x.2.2.1||(!x.2.2.2.1&&!x.2.2.2.2.1))&&(GG x.2.2.2.2.2.2.2.2.2.2.2.2.2 0 x.2.2.2.2.2.2.2.2.2.2.2.2.2.length&&(LP x.2.2.2.2.2.2.2.2.2||GH x.2.2.2.2.2.2.2.2.2 x.2.2.2.2.2.1))):=fun b=>lC (by
  unfold U4
  simp only [Z4 x h3,AA]
  generalize (GG x.2.2.2.2.2.2.2.2.2.2.2.2.2 0 x.2.2.2.2.2.2.2.2.2.2.2.2.2.length&&(LP x.2.2.2.2.2.2.2.2.2||GH x.2.2.2.2.2.2.2.2.2 x.2.2.2.2.2.1))=t
  generalize decide ((x.2.2.2.2.2.2.1.length:Int)>0)=c
  generalize x.2.2.2.2.2.1=s
  generalize x.2.2.2.2.1=l
  generalize x.2.2.2.1=m
  generalize x.2.2.1=n
  cases s<;>cases n<;>cases m<;>cases l<;>cases c<;>simp)
 unfold dA Z3
 simp only [BI,IC,Pm _ h1,O3 _ h2 RV,AA,w0]
 generalize (decide (1<=x.1)&&decide (x.1<=6))=a
 generalize (decide (1<=x.2.1)&&decide (x.2.1<=9))=b
 generalize GG x.2.2.2.2.2.2.1 0 x.2.2.2.2.2.2.1.length=d
 generalize GG x.2.2.2.2.2.2.2.2.2.2.2.2.2 0 x.2.2.2.2.2.2.2.2.2.2.2.2.2.length=e
 generalize CU x.2.2.2.2.2.2.2.1 0 x.2.2.2.2.2.2.2.1.length=f
 generalize (decide (0<=x.2.2.2.2.2.2.2.2.1)&&decide (x.2.2.2.2.2.2.2.2.1<=900))=g
 generalize (LP x.2.2.2.2.2.2.2.2.2||GH x.2.2.2.2.2.2.2.2.2 x.2.2.2.2.2.1)=t
 generalize (!x.2.2.2.2.2.1||(x.2.2.2.1&&x.2.2.2.2.1&&!decide ((x.2.2.2.2.2.2.1.length:Int)>0)))=p
 generalize (!x.2.2.1||(!x.2.2.2.1&&!x.2.2.2.2.1))=q
 cases a
 ·simp
 cases b
 ·simp
 cases d<;>cases e<;>cases f<;>cases g<;>cases p<;>cases q<;>simp)

abbrev Bv:Type:=Int×Int×Int×Int×Int×List (ByteArray×ByteArray×Int)
def Z5 (x:Bv):Bool :=
 (decide (1<=x.1)&&decide (x.1<=8))&&(decide (1<=x.2.1)&&decide (x.2.1<=6))&&(decide (1<=x.2.2.1)&&decide (x.2.2.1<=6))&&(decide (1<=x.2.2.2.1)&&decide (x.2.2.2.1<=9))&&(decide (0<=x.2.2.2.2.1)&&decide (x.2.2.2.2.1<=1000000000))&&CU x.2.2.2.2.2 0 x.2.2.2.2.2.length &&
  (if x.1=2\/x.1=3 then true else if x.1=5 then ((x.2.2.2.2.2.length:Int)==1) else ((x.2.2.2.2.2.length:Int)==0))
theorem tt (x:Bv) (h:x.2.2.2.2.2.length<=maxLen):ak x=some (Z5 x):=AAR (by
 have w1:∀ a b,MB a b x=some (if b=true then true else if a=5 then ((x.2.2.2.2.2.length:Int)==1) else ((x.2.2.2.2.2.length:Int)==0)):=fun a b=>td (by
  unfold dC
  by_cases h1:b=true<;>by_cases h2:a=5<;>simp [h1,h2])
 have w0:∀ b,Rz b x=some (if x.1=2\/x.1=3 then true else if x.1=5 then ((x.2.2.2.2.2.length:Int)==1) else ((x.2.2.2.2.2.length:Int)==0)):=fun b=>tf (by
  unfold dD
  by_cases h1:x.1=2<;>by_cases h2:x.1=3<;>simp [h1,h2,w1])
 unfold oF Z5
 simp only [BX,Ju _ h,AA,w0]
 generalize (decide (1<=x.1)&&decide (x.1<=8))=a
 generalize (decide (1<=x.2.1)&&decide (x.2.1<=6))=b
 generalize (decide (1<=x.2.2.1)&&decide (x.2.2.1<=6))=c
 generalize (decide (1<=x.2.2.2.1)&&decide (x.2.2.2.1<=9))=d
 generalize (decide (0<=x.2.2.2.2.1)&&decide (x.2.2.2.2.1<=1000000000))=e
 generalize CU x.2.2.2.2.2 0 x.2.2.2.2.2.length=f
 cases a<;>cases b<;>cases c<;>cases d<;>cases e<;>cases f<;>simp)
theorem tu (x:Bv) (h:x.2.2.2.2.2.length<=maxLen):am x=some (Z5 x):=AAS (by
 have w1:∀ a b,MC a b x=some (if b=true then true else if a=5 then ((x.2.2.2.2.2.length:Int)==1) else ((x.2.2.2.2.2.length:Int)==0)):=fun a b=>tl (by
  unfold dG
  by_cases h1:b=true<;>by_cases h2:a=5<;>simp [h1,h2])
 have w0:∀ b,R0 b x=some (if x.1=2\/x.1=3 then true else if x.1=5 then ((x.2.2.2.2.2.length:Int)==1) else ((x.2.2.2.2.2.length:Int)==0)):=fun b=>tm (by
  unfold dH
  by_cases h1:x.1=2<;>by_cases h2:x.1=3<;>simp [h1,h2,w1])
 unfold oJ Z5
 simp only [BI,IC,O3 _ h RV,AA,w0]
 generalize (decide (1<=x.1)&&decide (x.1<=8))=a
 generalize (decide (1<=x.2.1)&&decide (x.2.1<=6))=b
 generalize (decide (1<=x.2.2.1)&&decide (x.2.2.1<=6))=c
 generalize (decide (1<=x.2.2.2.1)&&decide (x.2.2.2.1<=9))=d
 generalize (decide (0<=x.2.2.2.2.1)&&decide (x.2.2.2.2.1<=1000000000))=e
 generalize CU x.2.2.2.2.2 0 x.2.2.2.2.2.length=f
 cases a<;>cases b<;>cases c<;>cases d<;>cases e<;>cases f<;>simp)

abbrev DU:Type:=Int×Int×Int×Ah
def asc (v:List Int):Prop:=(∀ a∈v,1<=a/\a<=6)/\v.Pairwise (· < ·)
theorem xF {v:List Int}:∀ (m i:Nat),i+m=v.length->(GG v i m=true↔∀ a (ha:a<v.length),i<=a->(1<=v[a]/\v[a]<=6)/\(a≠0->v.getD (a-1) 0<v[a]))
 | 0,i,h=>by
  simp only [GG,true_iff]
  intro a ha hi
  omega
 | m+1,i,h=>by
  have hi:i<v.length:=by omega
  rw [GG,AE,AE,xF m (i+1) (by omega),AW hi]
  simp only [Do,AE,decide_eq_true_eq]
  constructor
  ·rintro ⟨⟨h1,h2⟩,h3⟩ a ha hia
   by_cases e:a=i
   ·subst e
    exact ⟨h1,fun h0=>h2.resolve_left h0⟩
   ·exact h3 a ha (by omega)
  ·intro h3
   refine ⟨⟨(h3 i hi (Nat.le_refl _)).1,?_⟩,fun a ha hia=>h3 a ha (by omega)⟩
   by_cases e:i=0
   ·exact .inl e
   ·exact .inr ((h3 i hi (Nat.le_refl _)).2 e)
theorem AGH {v:List Int}:GG v 0 v.length=true↔asc v:=by
 rw [xF _ _ (by omega)]
 constructor
 ·intro h
  refine ⟨fun a ha=>?_,?_⟩
  ·obtain ⟨i,hi,rfl⟩:=EX ha
   exact (h i hi (Nat.zero_le _)).1
  ·have st:∀ d a (ha:a+d+1<v.length),v.getD a 0<v.getD (a+d+1) 0:=by
    intro d
    induction d with
    | zero =>
     intro a ha
     have:=(h (a+1) (by omega) (Nat.zero_le _)).2 (by omega)
     rw [AW (show a+0+1<v.length from ha)]
     simpa using this
    | succ d ih =>
     intro a ha
     have h1:=ih a (by omega)
     have h2:=(h (a+(d+1)+1) ha (Nat.zero_le _)).2 (by omega)
     rw [AW ha]
     simp only [Nat.add_sub_cancel] at h2
     have h3:v.getD (a+d+1) 0<v[a+(d+1)+1]:=h2
     omega
   rw [List.pairwise_iff_getElem]
   intro i j hi hj hij
   have:=st (j-i-1) i (by omega)
   rw [show i+(j-i-1)+1=j by omega,AW hi,AW hj] at this
   exact this
 ·rintro ⟨h1,h2⟩ a ha _
  refine ⟨h1 _ (BC ha),fun h0=>?_⟩
  rw [AW (show a-1<v.length by omega)]
  exact (List.pairwise_iff_getElem.1 h2) (a-1) a (by omega) ha (by omega)
theorem ACj {v:List Int} (h:asc v):v.length<=6:=by
 have hs:v.Sublist [1,2,3,4,5,6]:=by
  have key:∀ (l:List Int) (n:Nat),n<=6->(∀ a∈l,(6-n:Int)<a/\a<=6)->l.Pairwise (· < ·)->l.length<=n:=by
   intro l
   induction l with
   | nil=>intro n _ _ _; simp
   | cons a l ih =>
    intro n hn hb hp
    have ha:=hb a (by simp)
    have hp2:=List.pairwise_cons.1 hp
    have:=ih ((6-a).toNat) (by omega) (fun b hb'=>⟨by have:=hp2.1 b hb'; omega,(hb b (by simp [hb'])).2⟩) hp2.2
    simp only [List.length_cons]
    omega
  have hl:=key v 6 (by omega) (fun a ha=>by have:=h.1 a ha; omega) h.2
  exact List.Sublist.trans (List.Sublist.refl v) (by
   have:∀ (l:List Int) (s:List Int),s.Pairwise (· < ·)->l.Pairwise (· < ·)->(∀ a∈l,a∈s)->l.Sublist s:=by
    intro l s
    induction s generalizing l with
    | nil =>
     intro _ _ hm
     cases l with
     | nil=>exact List.Sublist.slnil
     | cons a l=>exact absurd (hm a (by simp)) (by simp)
    | cons b s ih =>
     intro hs hl hm
     cases l with
     | nil=>exact List.nil_sublist _
     | cons a l =>
      have hs2:=List.pairwise_cons.1 hs
      have hl2:=List.pairwise_cons.1 hl
      rcases BF.1 (hm a (by simp)) with e | e
      ·subst e
       refine (ih l hs2.2 hl2.2 fun c hc=>?_).cons_cons _
       rcases BF.1 (hm c (by simp [hc])) with e | e
       ·have:=hl2.1 c hc; omega
       ·exact e
      ·refine (ih (a::l) hs2.2 hl fun c hc=>?_).cons _
       rcases BF.1 (hm c hc) with e2 | e2
       ·have h1:=hs2.1 a e
        rcases BF.1 hc with e3 | e3
        ·omega
        ·have:=hl2.1 c e3; omega
       ·exact e2
   refine this v [1,2,3,4,5,6] (by decide) h.2 fun a ha=>?_
   have:=h.1 a ha
   have h5:a=1\/a=2\/a=3\/a=4\/a=5\/a=6:=by omega
   rcases h5 with h | h | h | h | h | h<;>simp [h])
 simpa using hs.length_le
structure LQ (m:AI):Prop where
 id:1<=m.1/\m.1<=6
 ep:1<=m.2.1/\m.2.1<=9
 serves:m.2.2.2.2.2.1=true->m.2.2.2.1=true/\m.2.2.2.2.1=true/\m.2.2.2.2.2.2.1=[]
 fell:m.2.2.1=true->m.2.2.2.1=false/\m.2.2.2.2.1=false
 waits:asc m.2.2.2.2.2.2.1
 left:asc m.2.2.2.2.2.2.2.2.2.2.2.2.2
 items:BN m.2.2.2.2.2.2.2.1=true
 count:0<=m.2.2.2.2.2.2.2.2.1/\m.2.2.2.2.2.2.2.2.1<=900
 task:LP m.2.2.2.2.2.2.2.2.2=true\/GH m.2.2.2.2.2.2.2.2.2 m.2.2.2.2.2.1=true
theorem ACk {m:AI}:Z3 m=true↔LQ m:=by
 unfold Z3
 simp only [AE,Do,EY,decide_eq_true_eq,AGH,decide_eq_false_iff_not]
 constructor
 ·rintro ⟨⟨⟨⟨⟨⟨⟨⟨h1,h2⟩,h3⟩,h4⟩,h5⟩,h6⟩,h7⟩,h8⟩,h9⟩
  refine ⟨h1,h2,fun h=>?_,fun h=>?_,h5,h6,h7,h8,h9⟩
  ·rcases h3 with h3 | ⟨⟨a,b⟩,c⟩
   ·rw [h] at h3; cases h3
   ·exact ⟨a,b,DD.1 (by omega)⟩
  ·rcases h4 with h4 | h4
   ·rw [h] at h4; cases h4
   ·exact h4
 ·rintro ⟨h1,h2,h3,h4,h5,h6,h7,h8,h9⟩
  refine ⟨⟨⟨⟨⟨⟨⟨⟨h1,h2⟩,?_⟩,?_⟩,h5⟩,h6⟩,h7⟩,h8⟩,h9⟩
  ·cases hs:m.2.2.2.2.2.1 with
   | false=>exact .inl rfl
   | true =>
    obtain ⟨a,b,c⟩:=h3 hs
    exact .inr ⟨⟨a,b⟩,by rw [c]; simp⟩
  ·cases hs:m.2.2.1 with
   | false=>exact .inl rfl
   | true=>exact .inr (h4 hs)
theorem NE {x:List Ah} (h:BN x=true):x.length<=12:=(IL.1 h).2.2
theorem LQ.lens {m:AI} (h:LQ m):m.2.2.2.2.2.2.1.length<=6/\m.2.2.2.2.2.2.2.1.length<=12/\m.2.2.2.2.2.2.2.2.2.2.2.2.2.length<=6:=⟨ACj h.waits,NE h.items,ACj h.left⟩
theorem oO (m:AI) (h1:m.2.2.2.2.2.2.1.length<=68719476736) (h2:m.2.2.2.2.2.2.2.1.length<=68719476736) (h3:m.2.2.2.2.2.2.2.2.2.2.2.2.2.length<=68719476736):Dv m=some m:=wL (by
 unfold fm
 rw [if_pos (by simpa using h1),if_pos (by simpa using h2),if_pos (by simpa using h3)]
 rfl)
theorem LQ.copy {m:AI} (h:LQ m):Dv m=some m:=by
 obtain ⟨h1,h2,h3⟩:=h.lens
 exact oO m (by omega) (by omega) (by omega)
def ID (view:List Int) (id:Int):List Int:=[1,2,3,4,5,6].filter fun v=>v != id&&view.contains v
theorem bB (view:List Int) (id:Int):asc (ID view id):=by
 refine ⟨fun a ha=>?_,List.Pairwise.filter _ (by decide)⟩
 have:=(List.mem_filter.1 ha).1
 simp at this
 omega
theorem LR (view:List Int) (id:Int) (h:view.length<=maxLen):Hx view id=some (ID view id):=qq (by
 unfold Zi
 have step:∀ (v:Nat) (acc r:List Int),v<=6->1<=v->acc.length<=6->Cj view id ((v+1:Nat):Int) (if ((v:Int) != id&&view.contains (v:Int))=true then acc++[(v:Int)] else acc)=some r->Cj view id (v:Int) acc=some r:=by
  intro v acc r hv hv1 ha hr
  refine S4 ?_
  unfold LN
  rw [if_pos (by simp; omega),AO (show v<9223372036854775807 by omega),DR view _ h]
  by_cases h1:((v:Int) != id)=true
  ·rw [if_pos h1,AA]
   by_cases h2:view.contains (v:Int)=true
   ·rw [if_pos h2,if_pos (by simp; omega)]
    rw [if_pos (by rw [h1,h2]; rfl)] at hr
    exact hr
   ·rw [if_neg h2]
    rw [if_neg (fun hc=>h2 (by simp only [AE] at hc; exact hc.2))] at hr
    exact hr
  ·rw [if_neg h1]
   rw [if_neg (fun hc=>h1 (by simp only [AE] at hc; exact hc.1))] at hr
   exact hr
 have fin:∀ acc,Cj view id ((7:Nat):Int) acc=some acc:=fun acc=>S4 (by
  unfold LN
  rw [if_neg (by decide)])
 have g:∀ (acc:List Int) (v:Int),(if (v != id&&view.contains v)=true then acc++[v] else acc).length<=acc.length+1:=by
  intro acc v; split<;>simp
 refine step 1 [] _ (by omega) (by omega) (by simp) ?_
 refine step 2 _ _ (by omega) (by omega) (by have:=g [] ((1:Nat):Int); simp only [List.length_nil] at this; omega) ?_
 have l2:=g [] ((1:Nat):Int)
 generalize e1:(if (((1:Nat):Int) != id&&view.contains ((1:Nat):Int))=true then ([]:List Int)++[((1:Nat):Int)] else [])=a1 at l2 ⊢
 have l3:=g a1 ((2:Nat):Int)
 generalize e2:(if (((2:Nat):Int) != id&&view.contains ((2:Nat):Int))=true then a1++[((2:Nat):Int)] else a1)=a2 at l3 ⊢
 have l4:=g a2 ((3:Nat):Int)
 simp only [List.length_nil] at l2
 refine step 3 _ _ (by omega) (by omega) (by omega) ?_
 generalize e3:(if (((3:Nat):Int) != id&&view.contains ((3:Nat):Int))=true then a2++[((3:Nat):Int)] else a2)=a3 at l4 ⊢
 have l5:=g a3 ((4:Nat):Int)
 refine step 4 _ _ (by omega) (by omega) (by omega) ?_
 generalize e4:(if (((4:Nat):Int) != id&&view.contains ((4:Nat):Int))=true then a3++[((4:Nat):Int)] else a3)=a4 at l5 ⊢
 have l6:=g a4 ((5:Nat):Int)
 refine step 5 _ _ (by omega) (by omega) (by omega) ?_
 generalize e5:(if (((5:Nat):Int) != id&&view.contains ((5:Nat):Int))=true then a4++[((5:Nat):Int)] else a4)=a5 at l6 ⊢
 refine step 6 _ _ (by omega) (by omega) (by omega) ?_
 rw [fin]
 congr 1
 unfold ID
 have fl:∀ (p:Int->Bool) (v:Int) (l:List Int),(v::l).filter p=(if p v=true then [v] else [])++l.filter p:=by
  intro p v l; rw [List.filter_cons]; split<;>simp
 have ap:∀ (c:Bool) (a:List Int) (v:Int),(if c=true then a++[v] else a)=a++(if c=true then [v] else []):=by
  intro c a v; split<;>simp
 rw [ap,<- e5,ap,<- e4,ap,<- e3,ap,<- e2,ap,<- e1,ap]
 simp only [fl,List.filter_nil,List.append_nil,List.nil_append,Bf]
 rfl)
theorem xG {v:List Int} (h:asc v) (p:Int->Bool):asc (v.filter p):=⟨fun a ha=>h.1 a (List.mem_filter.1 ha).1,h.2.filter p⟩
theorem RX (v:List Int) (x:Int) (h:v.length<=68719476736):JP v x=some (v.filter (· != x)):=oL (by
 unfold Xj
 have key:=Jy (n:=v.length) (P:=fun i=>∀ acc:List Int,acc.length<=i->Er v x (i:Int) acc=some (acc++(v.drop i).filter (· != x))) (fun acc ha=>RR (by
  unfold KP
  rw [if_neg (by simp)]
  simp)) (fun i hi ih acc ha=>RR (by
  unfold KP
  simp only [show ((i:Int)<(v.length:Int)) from by omega,decide_true,if_true,show (0:Int)<=(i:Int) from by omega,Ab,AW hi,AO (show i<9223372036854775807 by omega)]
  rw [Am hi,List.filter_cons]
  by_cases hh:(v[i] != x)=true
  ·rw [if_pos hh,if_pos (by simp; omega),ih _ (by simp; omega),if_pos hh,Bf]
   rfl
  ·rw [if_neg hh,ih _ (by omega),if_neg hh])) 0 (by omega) [] (by simp)
 simpa using key)

def Ck (view:List Int) (id:Int):List Int:=view.filter (· != id)
def Z6 (m:AI) (view:List Int) (its:List Ah):AI :=
 (m.1,m.2.1,m.2.2.1,true,m.2.2.2.2.1,(((ID view m.1).length:Int)==0),ID view m.1,its,m.2.2.2.2.2.2.2.2)
def Z7 (m:AI) (e:Int):AI :=
 (m.1,e,false,false,false,false,([]:List Int),m.2.2.2.2.2.2.2.1,(0:Int),(0:Int),(0:Int),(0:Int),(U,U,(0:Int)),([]:List Int))
def FC (m:AI) (x:Bv) (k:Int):List Bv:=[(k,m.1,x.2.1,x.2.2.2.1,x.2.2.2.2.1,([]:List Ah))]
def Z8 (m:AI) (its:List Ah):AI :=
 (m.1,m.2.1,m.2.2.1,m.2.2.2.1,m.2.2.2.2.1,m.2.2.2.2.2.1,m.2.2.2.2.2.2.1,its,m.2.2.2.2.2.2.2.2.1,(0:Int),(0:Int),(0:Int),(U,U,(0:Int)),([]:List Int))
def Ee (m:AI):List DU×AI :=
 if (m.2.2.2.2.2.2.2.2.2.1==1)=true then ([(m.2.2.2.2.2.2.2.2.2.2.1,m.2.1,m.2.2.2.2.2.2.2.2.2.2.2.1,m.2.2.2.2.2.2.2.2.2.2.2.2.1)],Z8 m (D4 m.2.2.2.2.2.2.2.1 m.2.2.2.2.2.2.2.2.2.2.2.2.1))
 else ([(m.2.2.2.2.2.2.2.2.2.2.1,m.2.1,m.2.2.2.2.2.2.2.2.2.2.2.1,DX m.2.2.2.2.2.2.2.1 m.2.2.2.2.2.2.2.2.2.2.2.2.1.1)],Z8 m m.2.2.2.2.2.2.2.1)
theorem Z9 (view:List Int) (its:List Ah) (m:AI) (h:view.length<=68719476736) (hi:its.length<=68719476736) :
  QX view its m=some ((Ck view m.1).map (fun v=>(3,m.1,v,m.2.1,0,its)),Z6 m view its):=yS (by
 unfold jW
 rw [if_pos (by simpa using hi),LR view _ (by unfold maxLen; omega),AA]
 have key:=Jy (n:=view.length) (P:=fun i=>∀ acc:List Bv,acc.length<=i->H7 view its (i:Int) (Z6 m view its) acc ([]++its)=some (acc++((view.drop i).filter (· != m.1)).map (fun v=>((3:Int),m.1,v,m.2.1,(0:Int),its)),Z6 m view its)) (fun acc ha=>Zk (by
  unfold QD
  rw [if_neg (by simp)]
  simp)) (fun i hi2 ih acc ha=>Zk (by
  unfold QD
  simp only [show ((i:Int)<(view.length:Int)) from by omega,decide_true,if_true,show (0:Int)<=(i:Int) from by omega,Ab,AW hi2,AO (show i<9223372036854775807 by omega)]
  rw [show (Z6 m view its).1=m.1 from rfl,show (Z6 m view its).2.1=m.2.1 from rfl,Am hi2,List.filter_cons]
  by_cases hh:(view[i] != m.1)=true
  ·rw [if_pos hh,if_pos (by simpa using hi),if_pos (by simp; omega),ih _ (by simp; omega),if_pos hh,List.map_cons,Bf]
   rfl
  ·rw [if_neg hh,ih _ (by omega),if_neg hh])) 0 (by omega) [] (by simp)
 exact key)
theorem Xr (m:AI) (e:Int) (h:m.2.2.2.2.2.2.2.1.length<=68719476736):N_ m e=some (Z7 m e):=wg (by
 unfold gF
 rw [if_pos (by simpa using h)]
 rfl)
theorem Io (m:AI) (x:Bv) (k:Int):E8 m x k=some (FC m x k):=ti rfl
theorem LT (m:AI) (h:m.2.2.2.2.2.2.2.1.length<=34359738367):Hy m=some (Ee m):=qr (by
 unfold Zj Ee
 rw [O5 _ _ h,Zx _ _ (by unfold maxLen; omega)]
 split<;>rfl)
def zA (m:AI) (f:Int):AI :=
 (m.1,m.2.1,m.2.2.1,m.2.2.2.1,m.2.2.2.2.1,m.2.2.2.2.2.1,m.2.2.2.2.2.2.1,m.2.2.2.2.2.2.2.1,m.2.2.2.2.2.2.2.2.1,m.2.2.2.2.2.2.2.2.2.1,m.2.2.2.2.2.2.2.2.2.2.1,m.2.2.2.2.2.2.2.2.2.2.2.1,m.2.2.2.2.2.2.2.2.2.2.2.2.1,m.2.2.2.2.2.2.2.2.2.2.2.2.2.filter (· != f))
def E7 (m:AI) (f:Int):AI×List Bv×List DU :=
 if (((m.2.2.2.2.2.2.2.2.2.2.2.2.2.filter (· != f)).length:Int)==0)=true then ((Ee (zA m f)).2,[],(Ee (zA m f)).1) else (zA m f,[],[])
def bC (m:AI) (view:List Int) (x:Bv):AI×List Bv×List DU :=
 if x.1=2 then (if (m.2.2.2.2.1&&!m.2.2.2.1)=true then (Z6 m view x.2.2.2.2.2,(Ck view m.1).map (fun v=>(3,m.1,v,m.2.1,0,x.2.2.2.2.2)),[]) else (m,[],[]))
 else if x.1=3 then (if (!view.contains m.1||(view.getD 0 0==m.1))=true then (m,[],[]) else if (!m.2.2.2.1&&m.2.2.1)=true then (m,[],[])
  else if m.2.2.2.1=true then (m,FC m x 4,[]) else
   ((m.1,m.2.1,false,true,false,false,([]:List Int),x.2.2.2.2.2,(0:Int),(0:Int),(0:Int),(0:Int),(U,U,(0:Int)),([]:List Int)),FC m x 4,[]))
 else if x.1=4 then (if m.2.2.2.2.1=true then
   ((m.1,m.2.1,m.2.2.1,m.2.2.2.1,m.2.2.2.2.1,m.2.2.2.1&&(((m.2.2.2.2.2.2.1.filter (· != x.2.1)).length:Int)==0),m.2.2.2.2.2.2.1.filter (· != x.2.1),m.2.2.2.2.2.2.2),[],[]) else (m,[],[]))
 else if x.1=5 then (if m.2.2.2.1=true then
   ((m.1,m.2.1,m.2.2.1,m.2.2.2.1,m.2.2.2.2.1,m.2.2.2.2.2.1,m.2.2.2.2.2.2.1,D4 m.2.2.2.2.2.2.2.1 (x.2.2.2.2.2.getD 0 (U,U,(0:Int))),m.2.2.2.2.2.2.2.2),FC m x 6,[]) else (m,[],[]))
 else if x.1=7 then (if m.2.2.2.1=true then (m,FC m x 8,[]) else (m,[],[]))
 else if (x.1=6\/x.1=8)/\m.2.2.2.2.2.2.2.2.2.1=(if x.1=8 then 2 else 1)/\m.2.2.2.2.2.2.2.2.2.2.2.1=x.2.2.2.2.1 then
  (E7 m x.2.1)
 else (m,[],[])
theorem rG (m:AI) (view:List Int) (x:Bv) (hm:LQ m) (hv:view.length<=68719476736) (hv0:0<view.length) (hx:x.2.2.2.2.2.length<=68719476736) (h5:x.1=5->0<x.2.2.2.2.2.length) :
  X8 m view x=some (bC m view x):=yT (by
 obtain ⟨l1,l2,l3⟩:=hm.lens
 unfold jX
 rw [hm.copy,AA]
 unfold bC
 by_cases k2:x.1=2
 ·rw [if_pos (by simpa using k2),if_pos k2]
  have J:∀ b y,Kr view [] [] b m x y m=some (if b=true then (Z6 m view x.2.2.2.2.2,(Ck view m.1).map (fun v=>(3,m.1,v,m.2.1,0,x.2.2.2.2.2)),[]) else (m,[],[])):=fun b y=>qu (by
   unfold Zl
   cases b
   ·rfl
   ·rw [if_pos rfl,Z9 view _ m hv hx]
    rfl)
  rw [J,J]
  cases m.2.2.2.2.1<;>cases m.2.2.2.1<;>rfl
 ·rw [if_neg (by simpa using k2),if_neg k2]
  by_cases k3:x.1=3
  ·rw [if_pos (by simpa using k3),if_pos k3,DR view _ (by unfold maxLen; omega),AA]
   have J2:∀ b y,Kt [] [] b m x y m=some (if m.2.2.2.1=true then (m,FC m x 4,[]) else
     ((m.1,m.2.1,false,true,false,false,([]:List Int),x.2.2.2.2.2,(0:Int),(0:Int),(0:Int),(0:Int),(U,U,(0:Int)),([]:List Int)),FC m x 4,[])):=fun b y=>qv (by
    unfold Zm
    rw [Xr m _ (by omega),Io,AA,AA]
    have hx':([]:List Ah).length+x.2.2.2.2.2.length<=68719476736:=by simpa using hx
    cases m.2.2.2.1
    ·rw [if_pos (show (!false)=true from rfl),if_pos hx']; rfl
    ·rfl)
   have J1:∀ b y,QE [] [] b m x y m=some (if (!m.2.2.2.1&&m.2.2.1)=true then (m,[],[]) else if m.2.2.2.1=true then (m,FC m x 4,[]) else
     ((m.1,m.2.1,false,true,false,false,([]:List Int),x.2.2.2.2.2,(0:Int),(0:Int),(0:Int),(0:Int),(U,U,(0:Int)),([]:List Int)),FC m x 4,[])):=fun b y=>qw (by
    unfold Zn
    rw [J2,J2]
    cases m.2.2.2.1<;>cases m.2.2.1<;>rfl)
   rw [show view.getD (0:Int).toNat 0=view.getD 0 0 from rfl]
   cases view.contains m.1
   ·rfl
   ·rw [if_neg (by simp),if_pos (by omega),if_pos (by omega),J1]
    cases (view.getD 0 0==m.1)<;>rfl
  ·rw [if_neg (by simpa using k3),if_neg k3]
   by_cases k4:x.1=4
   ·rw [if_pos (by simpa using k4),if_pos k4,RX _ _ (by omega),AA]
    cases m.2.2.2.2.1<;>cases m.2.2.2.1<;>rfl
   ·rw [if_neg (by simpa using k4),if_neg k4]
    by_cases k5:x.1=5
    ·have:=h5 k5
     rw [if_pos (by simpa using k5),if_pos k5,O5 _ _ (by omega),AA,Io,AA,show x.2.2.2.2.2.getD (0:Int).toNat (U,U,(0:Int))=x.2.2.2.2.2.getD 0 (U,U,(0:Int)) from rfl]
     cases m.2.2.2.1
     ·rfl
     ·rw [if_pos rfl,if_pos rfl,if_pos (by omega),if_pos (by omega)]
    ·rw [if_neg (by simpa using k5),if_neg k5]
     by_cases k7:x.1=7
     ·rw [if_pos (by simpa using k7),if_pos k7,Io,AA]
      cases m.2.2.2.1<;>rfl
     ·rw [if_neg (by simpa using k7),if_neg k7]
      have J5:∀ b y,QF [] [] b m x y m=some (E7 m x.2.1):=fun b y=>qx (by
       unfold Zo
       rw [RX _ _ (by omega),AA,LT _ (by simp only; omega),AA]
       unfold E7
       split<;>rfl)
      have J4:∀ op y,Ku [] [] op m x y m=some (if m.2.2.2.2.2.2.2.2.2.1=op/\m.2.2.2.2.2.2.2.2.2.2.2.1=x.2.2.2.2.1 then (E7 m x.2.1) else (m,[],[])):=fun op y=>qy (by
       unfold Zp
       rw [J5]
       by_cases h1:m.2.2.2.2.2.2.2.2.2.1=op
       ·rw [if_pos (by simp [h1])]
        by_cases h2:m.2.2.2.2.2.2.2.2.2.2.2.1=x.2.2.2.2.1
        ·rw [if_neg (by simp [h2]),if_pos (show _/\_ from ⟨h1,h2⟩)]
        ·rw [if_pos (by simp [h2]),if_neg (show ¬(_/\_) from fun h=>h2 h.2)]
       ·rw [if_neg (by simp [h1]),if_neg (fun h=>h1 h.1)])
      have J3:∀ b y,Kv [] [] b m x y m=some (if b=true/\m.2.2.2.2.2.2.2.2.2.1=(if x.1=8 then 2 else 1)/\m.2.2.2.2.2.2.2.2.2.2.2.1=x.2.2.2.2.1 then (E7 m x.2.1) else (m,[],[])):=fun b y=>qz (by
       unfold Zq
       rw [J4,J4]
       cases b
       ·rw [if_neg (by simp),if_neg (by simp)]
       ·rw [if_pos rfl]
        by_cases k8:x.1=8
        ·simp only [k8,beq_self_eq_true,if_true,true_and]
        ·rw [if_neg (by simpa using k8)]
         simp only [k8,if_false,true_and])
      rw [J3,J3]
      by_cases k6:x.1=6
      ·simp only [k6,beq_self_eq_true,if_true,true_and,true_or]
      ·rw [if_neg (by simpa using k6)]
       simp only [k6,false_or,beq_iff_eq])
structure VL (views:List (List Int)):Prop where
 ok:B_ views views.length views=true
theorem I4 {n:Nat}:∀ {l:List (List Int)} {x:List (List Int)},B_ x n l=true↔(∀ v∈l,bA v=true)/\1<=n/\n<=9
 | [],x=>by simp [B_]; omega
 | v::l,x=>by
  rw [B_,AE,I4]
  simp [and_assoc]
theorem VL.len {views:List (List Int)} (h:VL views):1<=views.length/\views.length<=9:=(I4.1 h.ok).2
theorem VL.view {views:List (List Int)} (h:VL views) {v:List Int} (hv:v∈views):1<=v.length/\v.length<=4:=by
 have:=(I4.1 h.ok).1 v hv
 unfold bA at this
 simp only [AE,decide_eq_true_eq] at this
 omega
theorem VL.get {views:List (List Int)} (h:VL views) {i:Nat} (hi:i<views.length):1<=(views.getD i []).length/\(views.getD i []).length<=4:=by
 rw [AW hi]
 exact h.view (BC hi)
theorem HI {views:List (List Int)} (h:VL views):DK views=some true:=by
 rw [Xp views (by have:=h.len; unfold maxLen; omega) (fun a ha=>by have:=h.view ha; unfold maxLen; omega),h.ok]
theorem Ms {m:AI} (h:LQ m):Gd m=some true:=by
 obtain ⟨h1,h2,h3⟩:=h.lens
 rw [lL m (by unfold maxLen; omega) (by unfold maxLen; omega) (by unfold maxLen; omega),ACk.2 h]
def EB (m:AI) (views:List (List Int)) (x:Bv):AI×List Bv×List DU :=
 if (Z5 x&&(x.2.2.1==m.1)&&decide (m.2.1<=x.2.2.2.1)&&decide (x.2.2.2.1<=(views.length:Int)))=true then
  if x.2.2.2.1=m.2.1 then bC m (views.getD (m.2.1-1).toNat []) x
  else if (x.1==1&&(x.2.2.2.1==m.2.1+1)&&m.2.2.2.1&&(views.getD (m.2.1-1).toNat []).contains m.1)=true then (Z7 m x.2.2.2.1,[(2,m.1,x.2.1,x.2.2.2.1,0,m.2.2.2.2.2.2.2.1)],[])
  else if (x.1==3&&(views.getD (x.2.2.2.1-1).toNat []).contains m.1&&((views.getD (x.2.2.2.1-1).toNat []).getD 0 0 != m.1))=true then
   ((m.1,x.2.2.2.1,false,true,false,false,([]:List Int),x.2.2.2.2.2,(0:Int),(0:Int),(0:Int),(0:Int),(U,U,(0:Int)),([]:List Int)),FC m x 4,[])
  else (m,[],[])
 else (m,[],[])
theorem AGI {x:Bv} (h:Z5 x=true):x.2.2.2.2.2.length<=12/\(x.1=5->x.2.2.2.2.2.length=1):=by
 unfold Z5 at h
 simp only [AE] at h
 refine ⟨NE (x:=x.2.2.2.2.2) h.1.2,fun h5=>?_⟩
 have:=h.2
 rw [if_neg (by omega),if_pos h5] at this
 simp only [beq_iff_eq] at this
 omega
theorem oP (m:AI) (views:List (List Int)) (x:Bv) (hm:LQ m) (hv:VL views) (hx:x.2.2.2.2.2.length<=68719476736) :
  UK m views x=some (EB m views x):=wW (by
 have hvl:=hv.len
 have hep:=hm.ep
 unfold f8 EB
 rw [hm.copy,AA,Ms hm,AA,if_pos (by rfl),HI hv,AA,if_pos (by rfl),tt x (by unfold maxLen; omega),AA]
 cases hmo:Z5 x with
 | false=>rfl
 | true =>
  obtain ⟨xl,x5⟩:=AGI hmo
  rw [if_pos (by rfl)]
  by_cases h1:x.2.2.1=m.1
  ·rw [if_pos (by simp [h1])]
   by_cases h2:x.2.2.2.1<m.2.1
   ·rw [if_neg (by simpa using h2),if_neg (by simp; omega)]
   ·rw [if_pos (by simpa using h2)]
    by_cases h3:x.2.2.2.1>(views.length:Int)
    ·rw [if_neg (by simpa using h3),if_neg (by simp; omega)]
    ·rw [if_pos (by simpa using h3),if_neg (by simp; omega),if_pos (by simp [h1]; omega)]
     have wm:IntKind.i64.wrap (m.2.1-1)=m.2.1-1:=Aa (by omega)
     have wp:IntKind.i64.wrap (m.2.1+1)=m.2.1+1:=Aa (by omega)
     have wx:IntKind.i64.wrap (x.2.2.2.1-1)=x.2.2.2.1-1:=Aa (by omega)
     have g1:=hv.get (i:=(m.2.1-1).toNat) (by omega)
     have g2:=hv.get (i:=(x.2.2.2.1-1).toNat) (by omega)
     have J3:∀ b y,HB [] [] b m x y m=some (if b=true then ((m.1,x.2.2.2.1,false,true,false,false,([]:List Int),x.2.2.2.2.2,(0:Int),(0:Int),(0:Int),(0:Int),(U,U,(0:Int)),([]:List Int)),FC m x 4,[]) else (m,[],[])):=fun b y=>nz (by
      unfold XS
      cases b
      ·rfl
      ·rw [if_pos rfl,if_pos (by simpa using hx),Io]
       rfl)
     have J2:∀ b y,Oo views [] [] b m x y m=some (if (x.1==3&&(views.getD (x.2.2.2.1-1).toNat []).contains m.1&&((views.getD (x.2.2.2.1-1).toNat []).getD 0 0 != m.1))=true then
       ((m.1,x.2.2.2.1,false,true,false,false,([]:List Int),x.2.2.2.2.2,(0:Int),(0:Int),(0:Int),(0:Int),(U,U,(0:Int)),([]:List Int)),FC m x 4,[]) else (m,[],[])):=fun b y=>n5 (by
      unfold XT
      rw [wx,if_pos (by omega),if_pos (by omega),DR _ _ (by unfold maxLen; omega),AA,show (views.getD (x.2.2.2.1-1).toNat ([]:List Int)).getD (0:Int).toNat 0=(views.getD (x.2.2.2.1-1).toNat []).getD 0 0 from rfl]
      simp only [J3]
      rw [if_pos (show (0:Int)<=0 by omega),if_pos (show (0:Int)<((views.getD (x.2.2.2.1-1).toNat ([]:List Int)).length:Int) by omega)]
      cases (x.1==3)<;>cases (views.getD (x.2.2.2.1-1).toNat ([]:List Int)).contains m.1<;>rfl)
     have J1:∀ b y,E3 views [] [] b m x y m=some (if b=true then (Z7 m x.2.2.2.1,[(2,m.1,x.2.1,x.2.2.2.1,0,m.2.2.2.2.2.2.2.1)],[]) else
       if (x.1==3&&(views.getD (x.2.2.2.1-1).toNat []).contains m.1&&((views.getD (x.2.2.2.1-1).toNat []).getD 0 0 != m.1))=true then
       ((m.1,x.2.2.2.1,false,true,false,false,([]:List Int),x.2.2.2.2.2,(0:Int),(0:Int),(0:Int),(0:Int),(U,U,(0:Int)),([]:List Int)),FC m x 4,[]) else (m,[],[])):=fun b y=>n6 (by
      unfold XU
      have hl:([]:List Ah).length+m.2.2.2.2.2.2.2.1.length<=68719476736:=by have:=hm.lens; simp; omega
      rw [J2,Xr m _ (by have:=hm.lens; omega),AA,if_pos hl]
      cases b<;>rfl)
     refine n7 ?_
     unfold XV
     rw [wm,wp]
     by_cases h4:x.2.2.2.1=m.2.1
     ·rw [if_pos (by simpa using h4),if_pos (by omega),if_pos (by omega),if_pos h4,rG m _ x hm (by omega) (by omega) hx (fun h=>by have:=x5 h; omega)]
      rfl
     ·rw [if_neg (by simpa using h4),if_neg h4,DR _ _ (by unfold maxLen; omega),AA]
      simp only [J1]
      rw [if_pos (show (0:Int)<=m.2.1-1 by omega),if_pos (show m.2.1-1<(views.length:Int) by omega)]
      cases (x.1==1)<;>cases (x.2.2.2.1==m.2.1+1)<;>cases m.2.2.2.1<;>cases (views.getD (m.2.1-1).toNat ([]:List Int)).contains m.1<;>rfl
  ·rw [if_neg (by simp [h1]),if_neg (by simp [h1])])

theorem jZ {v:List Int}:∀ (m i:Nat),i+m=v.length->(I3 v i m=true↔∀ a (ha:a<v.length),i<=a->(1<=v[a]/\v[a]<=6)/\v[a]∉v.take a)
 | 0,i,h=>by
  simp only [I3,true_iff]
  intro a ha hi
  omega
 | m+1,i,h=>by
  have hi:i<v.length:=by omega
  rw [I3,AE,AE,jZ m (i+1) (by omega),AW hi]
  simp only [AE,decide_eq_true_eq,EY,List.contains_eq_mem,decide_eq_false_iff_not]
  constructor
  ·rintro ⟨⟨h1,h2⟩,h3⟩ a ha hia
   by_cases e:a=i
   ·subst e
    exact ⟨h1,h2⟩
   ·exact h3 a ha (by omega)
  ·intro h3
   exact ⟨⟨(h3 i hi (Nat.le_refl _)).1,(h3 i hi (Nat.le_refl _)).2⟩,fun a ha hia=>h3 a ha (by omega)⟩
structure WOk (v:List Int):Prop where
 len:1<=v.length/\v.length<=4
 mem:∀ a∈v,1<=a/\a<=6
 nd:v.Nodup
theorem AAT {v:List Int}:bA v=true↔WOk v:=by
 unfold bA
 simp only [AE,decide_eq_true_eq]
 rw [jZ _ _ (by omega)]
 constructor
 ·rintro ⟨h1,h2⟩
  refine ⟨by omega,fun a ha=>?_,?_⟩
  ·obtain ⟨i,hi,rfl⟩:=EX ha
   exact (h2 i hi (Nat.zero_le _)).1
  ·rw [List.nodup_iff_pairwise_ne,List.pairwise_iff_getElem]
   intro i j hi hj hij e
   have:=(h2 j hj (Nat.zero_le _)).2
   apply this
   rw [<- e]
   exact List.mem_iff_getElem.2 ⟨i,by rw [List.length_take]; omega,by rw [List.getElem_take]⟩
 ·rintro ⟨h1,h2,h3⟩
  refine ⟨by omega,fun a ha _=>⟨h2 _ (BC ha),fun hm=>?_⟩⟩
  obtain ⟨i,hi,e⟩:=EX hm
  rw [List.length_take] at hi
  rw [List.getElem_take] at e
  have:=(List.getElem_inj h3).1 e
  omega
theorem VL.wok {views:List (List Int)} (h:VL views) {i:Nat} (hi:i<views.length):WOk (views.getD i []):=by
 rw [AW hi]
 exact AAT.1 ((I4.1 h.ok).1 _ (BC hi))
structure XOk (x:Bv):Prop where
 kind:1<=x.1/\x.1<=8
 frm:1<=x.2.1/\x.2.1<=6
 to:1<=x.2.2.1/\x.2.2.1<=6
 ep:1<=x.2.2.2.1/\x.2.2.2.1<=9
 num:0<=x.2.2.2.2.1/\x.2.2.2.2.1<=1000000000
 items:BN x.2.2.2.2.2=true
 shape:if x.1=2\/x.1=3 then True else if x.1=5 then x.2.2.2.2.2.length=1 else x.2.2.2.2.2=[]
theorem hU {x:Bv}:Z5 x=true↔XOk x:=by
 unfold Z5
 simp only [AE,decide_eq_true_eq]
 constructor
 ·rintro ⟨⟨⟨⟨⟨⟨h1,h2⟩,h3⟩,h4⟩,h5⟩,h6⟩,h7⟩
  refine ⟨h1,h2,h3,h4,h5,h6,?_⟩
  split at h7
  ·rename_i e; rw [if_pos e]; trivial
  ·rename_i e
   rw [if_neg e]
   split at h7
   ·rename_i e2; rw [if_pos e2]; simp only [beq_iff_eq] at h7; omega
   ·rename_i e2; rw [if_neg e2]; simp only [beq_iff_eq] at h7; exact DD.1 (by omega)
 ·rintro ⟨h1,h2,h3,h4,h5,h6,h7⟩
  refine ⟨⟨⟨⟨⟨⟨h1,h2⟩,h3⟩,h4⟩,h5⟩,h6⟩,?_⟩
  split
  ·rfl
  ·rename_i e
   rw [if_neg e] at h7
   split
   ·rename_i e2; rw [if_pos e2] at h7; simp; omega
   ·rename_i e2; rw [if_neg e2] at h7; simp [h7]
theorem Z_:BN []=true:=rfl
def lN (m n:AI) (l:List Bv):Prop:=∀ y∈l,XOk y/\y.2.1=m.1/\y.2.2.2.1=n.2.1
theorem oQ {m n:AI} {view:List Int} {k num:Int} {its:List Ah} (hm:1<=m.1/\m.1<=6) (he:1<=n.2.1/\n.2.1<=9) (hv:∀ a∈view,1<=a/\a<=6) (hk:1<=k/\k<=8) (hn:0<=num/\num<=1000000000) (hi:BN its=true)
  (hs:if k=2\/k=3 then True else if k=5 then its.length=1 else its=[]):lN m n ((Ck view m.1).map fun v=>(k,m.1,v,n.2.1,num,its)):=by
 intro y hy
 obtain ⟨v,hv2,rfl⟩:=List.mem_map.1 hy
 exact ⟨⟨hk,hm,hv v (List.mem_filter.1 hv2).1,he,hn,hi,hs⟩,rfl,rfl⟩
theorem U_ {m n:AI} {x:Bv} {k:Int} (hm:1<=m.1/\m.1<=6) (hx:XOk x) (he:x.2.2.2.1=n.2.1) (hk:k=4\/k=6\/k=8):lN m n (FC m x k):=by
 intro y hy
 simp only [FC,Bq] at hy
 subst hy
 refine ⟨⟨by show 1<=k/\k<=8; omega,hm,hx.frm,hx.ep,hx.num,Z_,?_⟩,rfl,he⟩
 show if k=2\/k=3 then True else if k=5 then ([]:List Ah).length=1 else ([]:List Ah)=[]
 rw [if_neg (by omega),if_neg (by omega)]
theorem gX {m n:AI}:lN m n []:=fun y hy=>by cases hy
theorem hX:LP ((0:Int),(0:Int),(0:Int),(U,U,(0:Int)),([]:List Int))=true:=by simp [LP,dy]
theorem LQ.has {m:AI} {view:List Int} {its:List Ah} (h:LQ m) (hl:m.2.2.2.2.1=true) (hb:m.2.2.2.1=false) (hi:BN its=true):LQ (Z6 m view its):=by
 have hns:m.2.2.2.2.2.1=false:=by
  cases hs:m.2.2.2.2.2.1 with
  | false=>rfl
  | true=>have:=(h.serves hs).1; rw [hb] at this; cases this
 refine ⟨h.id,h.ep,fun hs=>⟨rfl,hl,?_⟩,fun hf=>?_,bB _ _,h.left,hi,h.count,?_⟩
 ·simp only [Z6,beq_iff_eq] at hs ⊢
  exact DD.1 (by omega)
 ·have:=(h.fell hf).2; rw [hl] at this; cases this
 ·rcases h.task with h1 | h1
  ·exact .inl h1
  ·unfold GH at h1
   rw [hns] at h1
   simp at h1
theorem LQ.bare {m:AI} (h:LQ m) {e:Int} (he:1<=e/\e<=9):LQ (Z7 m e) :=
 ⟨h.id,he,fun hs=>(by cases hs),fun hf=>(by cases hf),⟨by simp [Z7],by simp [Z7]⟩,⟨by simp [Z7],by simp [Z7]⟩,h.items,⟨by simp [Z7],by simp [Z7]⟩,.inl hX⟩
theorem LQ.install {m:AI} (h:LQ m) {e:Int} {its:List Ah} (he:1<=e/\e<=9) (hi:BN its=true) :
  LQ (m.1,e,false,true,false,false,([]:List Int),its,(0:Int),(0:Int),(0:Int),(0:Int),(U,U,(0:Int)),([]:List Int)) :=
 ⟨h.id,he,fun hs=>(by cases hs),fun hf=>(by cases hf),⟨by simp,by simp⟩,⟨by simp,by simp⟩,hi,⟨by simp,by simp⟩,.inl hX⟩
theorem LQ.clear {m:AI} (h:LQ m) {its:List Ah} (hi:BN its=true):LQ (Z8 m its) :=
 ⟨h.id,h.ep,h.serves,h.fell,h.waits,⟨by simp [Z8],by simp [Z8]⟩,hi,h.count,.inl hX⟩
theorem LQ.finish {m:AI} (h:LQ m):LQ (Ee m).2:=by
 unfold Ee
 split
 ·exact h.clear (xE h.items)
 ·exact h.clear h.items
theorem AGJ {m:AI} (h:LQ m) (h0:m.2.2.2.2.2.2.2.2.2.1≠0):GH m.2.2.2.2.2.2.2.2.2 m.2.2.2.2.2.1=true:=by
 rcases h.task with h1 | h1
 ·unfold LP at h1
  simp only [AE,beq_iff_eq] at h1
  exact absurd h1.1.1.1.1 h0
 ·exact h1
def rH (l:List DU):Prop:=l.length<=1/\∀ s∈l,0<=s.1/\s.1<=1000
theorem GI:rH []:=⟨by simp,fun s hs=>by cases hs⟩
theorem r7 {m:AI} (h:LQ m) (h0:m.2.2.2.2.2.2.2.2.2.1≠0):rH (Ee m).1:=by
 have h1:=AGJ h h0
 unfold GH at h1
 simp only [AE,decide_eq_true_eq] at h1
 unfold Ee
 split
 ·exact ⟨by simp,fun s hs=>by simp at hs; subst hs; exact h1.1.2⟩
 ·exact ⟨by simp,fun s hs=>by simp at hs; subst hs; exact h1.1.2⟩
structure AAU (m:AI) (r:AI×List Bv×List DU):Prop where
 mok:LQ r.1
 id:r.1.1=m.1
 ep:m.2.1<=r.1.2.1
 told:lN m r.1 r.2.1
 tlen:r.2.1.length<=4
 said:rH r.2.2
theorem Ip {m:AI} (h:LQ m):AAU m (m,[],[]):=⟨h,rfl,Int.le_refl _,gX,by simp,GI⟩
theorem Iq (view:List Int) (id:Int):(Ck view id).length<=view.length:=List.length_filter_le _ _
theorem LQ.left_filter {m:AI} (h:LQ m) (f:Int):LQ (zA m f):=by
 refine ⟨h.id,h.ep,h.serves,h.fell,h.waits,xG h.left _,h.items,h.count,?_⟩
 rcases h.task with h1 | h1
 ·left
  unfold LP at h1 ⊢
  simp only [AE,beq_iff_eq] at h1 ⊢
  refine ⟨h1.1,?_⟩
  have h2:=List.length_filter_le (· != f) m.2.2.2.2.2.2.2.2.2.2.2.2.2
  have h3:=h1.2
  show (((m.2.2.2.2.2.2.2.2.2.2.2.2.2.filter (· != f)).length:Nat):Int)=0
  omega
 ·exact .inr h1
theorem AGK {m:AI} {view:List Int} {x:Bv} (hm:LQ m) (hv:WOk view) (hx:XOk x) (he:x.2.2.2.1=m.2.1):AAU m (bC m view x):=by
 unfold bC
 split
 ·split
  ·rename_i h1 h2
   simp only [AE,EY] at h2
   refine ⟨hm.has h2.1 h2.2 hx.items,rfl,Int.le_refl _,?_,by simp only [List.length_map]; have:=Iq view m.1; have:=hv.len; omega,GI⟩
   exact oQ (n:=Z6 m view x.2.2.2.2.2) hm.id hm.ep hv.mem (by omega) (by omega) hx.items (by simp)
  ·exact Ip hm
 ·split
  ·split
   ·exact Ip hm
   ·split
    ·exact Ip hm
    ·split
     ·exact ⟨hm,rfl,Int.le_refl _,U_ hm.id hx he (by omega),by simp [FC],GI⟩
     ·exact ⟨hm.install hm.ep hx.items,rfl,Int.le_refl _,U_ hm.id hx he (by omega),by simp [FC],GI⟩
  ·split
   ·split
    ·rename_i hl
     refine ⟨⟨hm.id,hm.ep,fun hs=>?_,hm.fell,xG hm.waits _,hm.left,hm.items,hm.count,?_⟩,rfl,Int.le_refl _,gX,by simp,GI⟩
     ·simp only [AE,beq_iff_eq] at hs
      exact ⟨hs.1,hl,DD.1 (show (List.filter (· != x.2.1) m.2.2.2.2.2.2.1).length=0 by have h:((List.filter (· != x.2.1) m.2.2.2.2.2.2.1).length:Int)=0:=hs.2; omega)⟩
     ·rcases hm.task with h1 | h1
      ·exact .inl h1
      ·right
       have hs:m.2.2.2.2.2.1=true:=by
        unfold GH at h1
        simp only [AE] at h1
        exact h1.1.1.2
       obtain ⟨a,b,c⟩:=hm.serves hs
       rw [hs] at h1
       simp only [c,List.filter_nil,List.length_nil,a,Bool.true_and]
       exact h1
    ·exact Ip hm
   ·split
    ·split
     ·exact ⟨⟨hm.id,hm.ep,hm.serves,hm.fell,hm.waits,hm.left,xE hm.items,hm.count,hm.task⟩,rfl,Int.le_refl _,U_ hm.id hx he (by omega),by simp [FC],GI⟩
     ·exact Ip hm
    ·split
     ·split
      ·exact ⟨hm,rfl,Int.le_refl _,U_ hm.id hx he (by omega),by simp [FC],GI⟩
      ·exact Ip hm
     ·by_cases hc:(x.1=6\/x.1=8)/\m.2.2.2.2.2.2.2.2.2.1=(if x.1=8 then 2 else 1)/\m.2.2.2.2.2.2.2.2.2.2.2.1=x.2.2.2.2.1
      ·rw [if_pos hc]
       have hn:=hm.left_filter x.2.1
       unfold E7
       split
       ·refine ⟨hn.finish,?_,?_,gX,by simp,r7 hn ?_⟩
        ·unfold Ee; split<;>rfl
        ·unfold Ee; split<;>exact Int.le_refl _
        ·have:=hc.2.1
         show m.2.2.2.2.2.2.2.2.2.1≠0
         rw [this]
         split<;>omega
       ·exact ⟨hn,rfl,Int.le_refl _,gX,by simp,GI⟩
      ·rw [if_neg hc]
       exact Ip hm
theorem aA {m:AI} {views:List (List Int)} {x:Bv} (hm:LQ m) (hv:VL views):AAU m (EB m views x):=by
 unfold EB
 split
 ·rename_i hc
  simp only [AE,decide_eq_true_eq,beq_iff_eq] at hc
  obtain ⟨⟨⟨h1,h2⟩,h3⟩,h4⟩:=hc
  have hx:=hU.1 h1
  have hvl:=hv.len
  have he:=hm.ep
  split
  ·rename_i e
   exact AGK hm (hv.wok (by omega)) hx e
  ·split
   ·refine ⟨hm.bare hx.ep,rfl,h3,fun y hy=>?_,by simp,GI⟩
    simp only [Bq] at hy
    subst hy
    exact ⟨⟨by simp,hm.id,hx.frm,hx.ep,by simp,hm.items,by simp⟩,rfl,rfl⟩
   ·split
    ·exact ⟨hm.install hx.ep hx.items,rfl,h3,U_ hm.id hx rfl (by omega),by simp [FC],GI⟩
    ·exact Ip hm
 ·exact Ip hm

def Ln:AI:=((0:Int),(0:Int),false,false,false,false,([]:List Int),([]:List Ah),(0:Int),(0:Int),(0:Int),(0:Int),(U,U,(0:Int)),([]:List Int))
def bD (m:AI) (views:List (List Int)) (op call:Int) (key val:ByteArray):Bool :=
 m.2.2.2.2.2.1&&(m.2.2.2.2.2.2.2.2.2.1==0)&&decide (m.2.2.2.2.2.2.2.2.1<900)&&(op==1||op==2)&&(decide (0<=call)&&decide (call<=1000))&&(decide (1<=(key.size:Int))&&decide ((key.size:Int)<=12))&&decide ((val.size:Int)<=20)&&(op==1||isE val)&&decide (m.2.1<=(views.length:Int))&&((views.getD (m.2.1-1).toNat []).getD 0 0==m.1)
def Lo (m:AI) (key val:ByteArray):Ah:=(key,val,1000*m.2.1+(m.2.2.2.2.2.2.2.2.1+1))
def Jv (m:AI) (view:List Int) (op call:Int) (key val:ByteArray):AI :=
 (m.1,m.2.1,m.2.2.1,m.2.2.2.1,m.2.2.2.2.1,m.2.2.2.2.2.1,m.2.2.2.2.2.2.1,m.2.2.2.2.2.2.2.1,m.2.2.2.2.2.2.2.2.1+1,op,call,m.2.2.2.2.2.2.2.2.1+1,Lo m key val,ID view m.1)
def yV (m:AI) (view:List Int) (op:Int) (key val:ByteArray):List Bv :=
 (Ck view m.1).map fun v=>(if op=1 then 5 else 7,m.1,v,m.2.1,m.2.2.2.2.2.2.2.2.1+1,if op=1 then [Lo m key val] else [])
def VD (m:AI) (view:List Int) (op call:Int) (key val:ByteArray):AI×List Bv×List DU×Bool :=
 if ID view m.1=[] then ((Ee (Jv m view op call key val)).2,[],(Ee (Jv m view op call key val)).1,true) else (Jv m view op call key val,yV m view op key val,[],true)
def DY (m:AI) (views:List (List Int)) (op call:Int) (key val:ByteArray):AI×List Bv×List DU×Bool :=
 if bD m views op call key val=true then
  (if op=1/\dy (.pair .str (.pair .str (.int .i64))) (DX (D4 m.2.2.2.2.2.2.2.1 (Lo m key val)) key) (Lo m key val)=false then (Ln,[],[],false) else VD m (views.getD (m.2.1-1).toNat []) op call key val)
 else (Ln,[],[],false)
theorem tv (m:AI) (views:List (List Int)) (op call:Int) (key val:ByteArray) (hm:LQ m) (hv:VL views):ag m views op call key val=some (DY m views op call key val):=AAP (by
 have hvl:=hv.len
 have hep:=hm.ep
 have hl:=hm.lens
 have hcnt:=hm.count
 have wm:IntKind.i64.wrap (m.2.1-1)=m.2.1-1:=Aa (by omega)
 have wc:IntKind.i64.wrap (m.2.2.2.2.2.2.2.2.1+1)=m.2.2.2.2.2.2.2.2.1+1:=Aa (by omega)
 have w1:IntKind.i64.wrap (1000*m.2.1)=1000*m.2.1:=Aa (by omega)
 have w2:IntKind.i64.wrap (1000*m.2.1+(m.2.2.2.2.2.2.2.2.1+1))=1000*m.2.1+(m.2.2.2.2.2.2.2.2.1+1):=Aa (by omega)
 unfold nx
 rw [Ms hm,AA,if_neg (by simp),HI hv,AA,if_neg (by simp)]
 have bad:bD m views op call key val=false->DY m views op call key val=(Ln,[],[],false):=fun h=>by unfold DY; rw [h]; rfl
 by_cases c1:m.2.2.2.2.2.1=true
 case neg =>
  rw [if_pos (by simpa using c1),bad (by unfold bD; simp [c1])]
  rfl
 rw [if_neg (by simpa using c1)]
 by_cases c2:m.2.2.2.2.2.2.2.2.2.1=0
 case neg =>
  rw [if_pos (by simpa using c2),bad (by unfold bD; simp [c2])]
  rfl
 rw [if_neg (by simpa using c2)]
 by_cases c3:m.2.2.2.2.2.2.2.2.1<900
 case neg =>
  rw [if_pos (by simp; omega),bad (by unfold bD; simp [c3])]
  rfl
 rw [if_neg (by simp; omega)]
 have view:∀ (hep2:m.2.1<=(views.length:Int)),1<=(views.getD (m.2.1-1).toNat []).length/\(views.getD (m.2.1-1).toNat []).length<=4:=fun h=>hv.get (by omega)
 have L2:∀ (v:List Int) (hv:v.length<=4) (y:AI) (its:List Ah),op=1->E9 op [] v 0 m y [] (Jv m v op call key val) (Lo m key val) its=some (Jv m v op call key val,yV m v op key val,[],true):=by
  intro v hv y its ho
  have key':=Jy (n:=v.length) (P:=fun i=>∀ acc:List Bv,acc.length<=i->E9 op [] v (i:Int) m y acc (Jv m v op call key val) (Lo m key val) its=some (Jv m v op call key val,acc++((v.drop i).filter (· != m.1)).map (fun v=>((5:Int),m.1,v,m.2.1,m.2.2.2.2.2.2.2.2.1+1,[Lo m key val])),[],true)) (fun acc ha=>cr (by
   unfold Rw
   rw [if_neg (by simp)]
   simp)) (fun i hi ih acc ha=>cr (by
   unfold Rw
   simp only [show ((i:Int)<(v.length:Int)) from by omega,decide_true,if_true,show (0:Int)<=(i:Int) from by omega,Ab,AW hi,AO (show i<9223372036854775807 by omega),ho,beq_self_eq_true]
   rw [ho] at ih
   rw [Am hi,List.filter_cons]
   by_cases hh:v[i]=m.1
   ·rw [if_pos (by simpa using hh),ih _ (by omega),if_neg (by simpa using hh)]
   ·rw [if_neg (by simpa using hh),if_pos (by simp; omega),ih _ (by simp; omega),if_pos (by simpa using hh),List.map_cons,Bf]
    rfl)) 0 (by omega) [] (by simp)
  unfold yV
  rw [if_pos ho,if_pos ho]
  exact key'
 have L4:∀ (v:List Int) (hv:v.length<=4) (y:AI),op≠1->E_ op [] v 0 m y [] (Jv m v op call key val) (Lo m key val)=some (Jv m v op call key val,yV m v op key val,[],true):=by
  intro v hv y ho
  have key':=Jy (n:=v.length) (P:=fun i=>∀ acc:List Bv,acc.length<=i->E_ op [] v (i:Int) m y acc (Jv m v op call key val) (Lo m key val)=some (Jv m v op call key val,acc++((v.drop i).filter (· != m.1)).map (fun v=>((7:Int),m.1,v,m.2.1,m.2.2.2.2.2.2.2.2.1+1,([]:List Ah))),[],true)) (fun acc ha=>ct (by
   unfold Rx
   rw [if_neg (by simp)]
   simp)) (fun i hi ih acc ha=>ct (by
   unfold Rx
   have ho':¬ ((op==1)=true):=by simpa using ho
   simp only [show ((i:Int)<(v.length:Int)) from by omega,decide_true,if_true,show (0:Int)<=(i:Int) from by omega,Ab,AW hi,AO (show i<9223372036854775807 by omega),if_neg ho']
   rw [Am hi,List.filter_cons]
   by_cases hh:v[i]=m.1
   ·rw [if_pos (by simpa using hh),ih _ (by omega),if_neg (by simpa using hh)]
   ·rw [if_neg (by simpa using hh),if_pos (by simp; omega),ih _ (by simp; omega),if_pos (by simpa using hh),List.map_cons,Bf]
    rfl)) 0 (by omega) [] (by simp)
  unfold yV
  rw [if_neg ho,if_neg ho]
  exact key'
 have nil_iff:∀ l:List Int,((l.length:Int)==0)=true↔l=[]:=fun l=>by
  rw [beq_iff_eq]
  exact ⟨fun h=>DD.1 (by omega),fun h=>by rw [h]; rfl⟩
 have J1:∀ (b:Bool) (y:AI) (its:List Ah),op=1->m.2.1<=(views.length:Int)->Ru views op call [] b m y [] (m.1,m.2.1,m.2.2.1,m.2.2.2.1,m.2.2.2.2.1,m.2.2.2.2.2.1,m.2.2.2.2.2.2.1,m.2.2.2.2.2.2.2.1,m.2.2.2.2.2.2.2.2.1+1,m.2.2.2.2.2.2.2.2.2) (Lo m key val) its=some (VD m (views.getD (m.2.1-1).toNat []) op call key val):=fun b y its ho he=>tM (by
  have:=view he
  unfold cn VD
  rw [wm,if_pos (by omega),if_pos (by omega),LR _ _ (by unfold maxLen; omega),AA]
  by_cases hz:ID (views.getD (m.2.1-1).toNat []) m.1=[]
  ·rw [if_pos ((nil_iff _).2 hz),if_pos hz]
   have:=LT (Jv m (views.getD (m.2.1-1).toNat []) op call key val) (by show m.2.2.2.2.2.2.2.1.length<=_; omega)
   unfold Jv at this
   simp only
   rw [this]
   rfl
  ·rw [if_neg (fun h=>hz ((nil_iff _).1 h)),if_neg hz]
   exact L2 _ (by omega) y its ho)
 have J3:∀ (b:Bool) (y:AI),op≠1->m.2.1<=(views.length:Int)->Rv views op call [] b m y [] (m.1,m.2.1,m.2.2.1,m.2.2.2.1,m.2.2.2.2.1,m.2.2.2.2.2.1,m.2.2.2.2.2.2.1,m.2.2.2.2.2.2.2.1,m.2.2.2.2.2.2.2.2.1+1,m.2.2.2.2.2.2.2.2.2) (Lo m key val)=some (VD m (views.getD (m.2.1-1).toNat []) op call key val):=fun b y ho he=>tN (by
  have:=view he
  unfold cp VD
  rw [wm,if_pos (by omega),if_pos (by omega),LR _ _ (by unfold maxLen; omega),AA]
  by_cases hz:ID (views.getD (m.2.1-1).toNat []) m.1=[]
  ·rw [if_pos ((nil_iff _).2 hz),if_pos hz]
   have:=LT (Jv m (views.getD (m.2.1-1).toNat []) op call key val) (by show m.2.2.2.2.2.2.2.1.length<=_; omega)
   unfold Jv at this
   simp only
   rw [this]
   rfl
  ·rw [if_neg (fun h=>hz ((nil_iff _).1 h)),if_neg hz]
   exact L4 _ (by omega) y ho)
 have J0:∀ (b:Bool) (y:AI),bD m views op call key val=true->m.2.1<=(views.length:Int)->DQ views op call key val [] b m y []=some (DY m views op call key val):=fun b y hmay he=>tO (by
  unfold cq DY
  rw [if_pos hmay,hm.copy,AA,wc,w1,w2]
  by_cases ho:op=1
  ·rw [if_pos (by simpa using ho),O5 _ _ (by omega),AA,Zx _ _ (by have:=ABS m.2.2.2.2.2.2.2.1 (key,val,1000*m.2.1+(m.2.2.2.2.2.2.2.2.1+1)); unfold maxLen; omega),AA]
   cases hq:dy (.pair .str (.pair .str (.int .i64))) (DX (D4 m.2.2.2.2.2.2.2.1 (Lo m key val)) key) (Lo m key val) with
   | false =>
    have hq':dy AK (DX (D4 m.2.2.2.2.2.2.2.1 (key,val,1000*m.2.1+(m.2.2.2.2.2.2.2.2.1+1))) key) (key,val,1000*m.2.1+(m.2.2.2.2.2.2.2.2.1+1))=false:=hq
    rw [hq',if_pos (show (true != false)=true from rfl),if_pos (show op=1/\false=false from ⟨ho,rfl⟩)]
    rfl
   | true =>
    have hq':dy AK (DX (D4 m.2.2.2.2.2.2.2.1 (key,val,1000*m.2.1+(m.2.2.2.2.2.2.2.2.1+1))) key) (key,val,1000*m.2.1+(m.2.2.2.2.2.2.2.2.1+1))=true:=hq
    rw [hq',if_neg (show ¬ (true != true)=true by simp),if_neg (show ¬ (op=1/\true=false) by rintro ⟨_,h⟩; cases h)]
    exact J1 _ y _ ho he
  ·rw [if_neg (by simpa using ho),if_neg (fun h=>ho h.1)]
   exact J3 _ y ho he)
 have tail:op=1\/op=2->((Ad call 0 1000).bind fun y3=>(if (!y3)=true then (some (Ln,([]:List Bv),([]:List DU),false)) else ((Ad (key.size:Int) 1 12).bind fun y4=>(if (!y4)=true then (some (Ln,([]:List Bv),([]:List DU),false)) else (if (decide ((val.size:Int)>20))=true then (some (Ln,([]:List Bv),([]:List DU),false)) else (if (op==2)=true then (if (!(val.toList==(⟨#[]⟩:ByteArray).toList))=true then (some (Ln,([]:List Bv),([]:List DU),false)) else (if (decide (m.2.1>(views.length:Int)))=true then (some (Ln,([]:List Bv),([]:List DU),false)) else (if 0<=(IntKind.i64.wrap (m.2.1-1)) then (if (IntKind.i64.wrap (m.2.1-1))<(views.length:Int) then (if 0<=(0:Int) then (if (0:Int)<((views.getD (IntKind.i64.wrap (m.2.1-1)).toNat ([]:List Int)).length:Int) then (if (((views.getD (IntKind.i64.wrap (m.2.1-1)).toNat ([]:List Int)).getD (0:Int).toNat 0) != m.1)=true then (some (Ln,([]:List Bv),([]:List DU),false)) else (DQ views op call key val ([]:List DU) (((views.getD (IntKind.i64.wrap (m.2.1-1)).toNat ([]:List Int)).getD (0:Int).toNat 0) != m.1) m Ln ([]:List Bv))) else none) else none) else none) else none))) else (if (decide (m.2.1>(views.length:Int)))=true then (some (Ln,([]:List Bv),([]:List DU),false)) else (if 0<=(IntKind.i64.wrap (m.2.1-1)) then (if (IntKind.i64.wrap (m.2.1-1))<(views.length:Int) then (if 0<=(0:Int) then (if (0:Int)<((views.getD (IntKind.i64.wrap (m.2.1-1)).toNat ([]:List Int)).length:Int) then (if (((views.getD (IntKind.i64.wrap (m.2.1-1)).toNat ([]:List Int)).getD (0:Int).toNat 0) != m.1)=true then (some (Ln,([]:List Bv),([]:List DU),false)) else (DQ views op call key val ([]:List DU) (((views.getD (IntKind.i64.wrap (m.2.1-1)).toNat ([]:List Int)).getD (0:Int).toNat 0) != m.1) m Ln ([]:List Bv))) else none) else none) else none) else none))))))))=some (DY m views op call key val):=by
  intro hop
  rw [BX,AA,BX,AA,wm]
  cases c5:(decide (0<=call)&&decide (call<=1000)) with
  | false=>rw [bad (by unfold bD; rw [c5]; simp)]; rfl
  | true =>
  rw [if_neg (by simp)]
  cases c6:(decide (1<=(key.size:Int))&&decide ((key.size:Int)<=12)) with
  | false=>rw [bad (by unfold bD; rw [c6]; simp)]; rfl
  | true =>
  rw [if_neg (by simp)]
  by_cases c7:(val.size:Int)<=20
  case neg=>rw [if_pos (by simp; omega),bad (by unfold bD; simp [c7])]
  rw [if_neg (by simp; omega)]
  have last:(op==1||isE val)=true->(if (decide (m.2.1>(views.length:Int)))=true then (some (Ln,([]:List Bv),([]:List DU),false)) else (if 0<=m.2.1-1 then (if m.2.1-1<(views.length:Int) then (if 0<=(0:Int) then (if (0:Int)<((views.getD (m.2.1-1).toNat ([]:List Int)).length:Int) then (if (((views.getD (m.2.1-1).toNat ([]:List Int)).getD (0:Int).toNat 0) != m.1)=true then (some (Ln,([]:List Bv),([]:List DU),false)) else (DQ views op call key val ([]:List DU) (((views.getD (m.2.1-1).toNat ([]:List Int)).getD (0:Int).toNat 0) != m.1) m Ln ([]:List Bv))) else none) else none) else none) else none))=some (DY m views op call key val):=by
   intro c8
   by_cases c9:m.2.1<=(views.length:Int)
   case neg=>rw [if_pos (by simp; omega),bad (by unfold bD; simp [c9])]
   have:=view c9
   rw [if_neg (by simp; omega),if_pos (by omega),if_pos (by omega),if_pos (by omega),if_pos (by omega),show (views.getD (m.2.1-1).toNat ([]:List Int)).getD (0:Int).toNat 0=(views.getD (m.2.1-1).toNat []).getD 0 0 from rfl]
   by_cases c10:(views.getD (m.2.1-1).toNat []).getD 0 0=m.1
   case neg=>rw [if_pos (by simpa using c10),bad (by unfold bD; rw [show ((views.getD (m.2.1-1).toNat []).getD 0 0==m.1)=false from by simpa using c10,Bool.and_false])]
   rw [if_neg (by simpa using c10)]
   refine J0 _ _ ?_ c9
   unfold bD
   rw [c1,c5,c6,c8]
   simp only [c2,beq_self_eq_true,c3,c7,c9,c10,decide_true,Bool.and_true,Bool.true_and]
   rcases hop with h | h<;>simp [h]
  by_cases c8:op=2
  ·rw [if_pos (by simpa using c8)]
   cases ce:isE val with
   | false =>
    rw [if_pos (by rw [rE,ce]; rfl),bad (by unfold bD; rw [ce,show (op==1)=false from by simp [c8]]; simp)]
   | true =>
    rw [if_neg (by rw [rE,ce]; simp)]
    exact last (by rw [ce,Bool.or_true])
  ·rw [if_neg (by simpa using c8)]
   exact last (by rw [show (op==1)=true from by simp; omega]; rfl)
 by_cases c4:op=1
 ·rw [if_neg (by simpa using c4)]
  exact tail (.inl c4)
 ·rw [if_pos (by simpa using c4)]
  by_cases c4':op=2
  ·rw [if_neg (by simpa using c4')]
   exact tail (.inr c4')
  ·rw [if_pos (by simpa using c4'),bad (by unfold bD; rw [show (op==1||op==2)=false from by simp [c4,c4']]; simp)]
   rfl)
structure ACl (m:AI) (r:AI×List Bv×List DU×Bool):Prop where
 mok:r.2.2.2=true->LQ r.1
 id:r.2.2.2=true->r.1.1=m.1
 ep:r.2.2.2=true->r.1.2.1=m.2.1
 told:r.2.2.2=true->lN m r.1 r.2.1
 tlen:r.2.1.length<=4
 said:rH r.2.2.1
theorem zB {m:AI}:ACl m (Ln,[],[],false):=⟨fun h=>(by cases h),fun h=>(by cases h),fun h=>(by cases h),fun h=>(by cases h),by simp,GI⟩
theorem rI {m:AI} {views:List (List Int)} {op call:Int} {key val:ByteArray} (h:bD m views op call key val=true) :
  m.2.2.2.2.2.1=true/\m.2.2.2.2.2.2.2.2.2.1=0/\m.2.2.2.2.2.2.2.2.1<900/\(op=1\/op=2)/\(0<=call/\call<=1000)/\(1<=(key.size:Int)/\(key.size:Int)<=12)/\(val.size:Int)<=20/\(op=1\/isE val=true)/\m.2.1<=(views.length:Int)/\(views.getD (m.2.1-1).toNat []).getD 0 0=m.1:=by
 unfold bD at h
 simp only [AE,Do,decide_eq_true_eq,beq_iff_eq] at h
 obtain ⟨⟨⟨⟨⟨⟨⟨⟨⟨h1,h2⟩,h3⟩,h4⟩,h5⟩,h6⟩,h7⟩,h8⟩,h9⟩,h10⟩:=h
 exact ⟨h1,h2,h3,h4,h5,h6,h7,h8,h9,h10⟩
theorem ABT {m:AI} {key val:ByteArray} (h:LQ m) (h3:m.2.2.2.2.2.2.2.2.1<900) (h6:1<=(key.size:Int)/\(key.size:Int)<=12) (h7:(val.size:Int)<=20):BN [Lo m key val]=true:=by
 refine IL.2 ⟨fun b hb=>?_,?_,by simp⟩
 ·simp only [Bq] at hb
  subst hb
  unfold MD Lo
  have:=h.ep
  have:=h.count
  simp only [AE,decide_eq_true_eq]
  omega
 ·exact y_.2 (by simp)
theorem LQ.task1 {m:AI} {view:List Int} {op call:Int} {key val:ByteArray} (h:LQ m) (h1:m.2.2.2.2.2.1=true) (h3:m.2.2.2.2.2.2.2.2.1<900) (h4:op=1\/op=2) (h5:0<=call/\call<=1000):LQ (Jv m view op call key val):=by
 have hc:=h.count
 refine ⟨h.id,h.ep,h.serves,h.fell,h.waits,bB _ _,h.items,?_,.inr ?_⟩
 ·show 0<=m.2.2.2.2.2.2.2.2.1+1/\m.2.2.2.2.2.2.2.2.1+1<=900
  omega
 ·unfold GH Jv
  rw [h1]
  simp only [AE,Do,decide_eq_true_eq,beq_iff_eq]
  exact ⟨⟨⟨h4,trivial⟩,h5⟩,by omega⟩
theorem aB {m:AI} {views:List (List Int)} {op call:Int} {key val:ByteArray} (hm:LQ m) (hv:VL views):ACl m (DY m views op call key val):=by
 unfold DY
 split
 ·rename_i hmay
  obtain ⟨h1,h2,h3,h4,h5,h6,h7,h8,h9,h10⟩:=rI hmay
  split
  ·exact zB
  ·unfold VD
   have hep:=hm.ep
   have ht:=hm.task1 (view:=views.getD (m.2.1-1).toNat []) (key:=key) (val:=val) h1 h3 h4 h5
   have h0:(Jv m (views.getD (m.2.1-1).toNat []) op call key val).2.2.2.2.2.2.2.2.2.1≠0:=by show op≠0; omega
   have hw:=hv.wok (i:=(m.2.1-1).toNat) (by omega)
   split
   ·exact ⟨fun _=>ht.finish,fun _=>(by unfold Ee; split<;>rfl),fun _=>(by unfold Ee; split<;>rfl),fun _=>gX,by simp,r7 ht h0⟩
   ·refine ⟨fun _=>ht,fun _=>rfl,fun _=>rfl,fun _=>?_,?_,GI⟩
    ·unfold yV
     have hc:=hm.count
     have hi:=ABT hm h3 h6 h7
     refine oQ (n:=Jv m (views.getD (m.2.1-1).toNat []) op call key val) hm.id hm.ep hw.mem (by split<;>omega) (by omega) ?_ ?_
     ·split
      ·exact hi
      ·exact Z_
     ·by_cases ho:op=1
      ·rw [if_pos ho,if_pos ho,if_neg (by omega),if_pos rfl]; rfl
      ·rw [if_neg ho,if_neg ho,if_neg (by omega),if_neg (by omega)]
    ·unfold yV
     simp only [List.length_map]
     have:=Iq (views.getD (m.2.1-1).toNat []) m.1
     have:=hw.len
     omega
 ·exact zB
def NK (m:AI) (e:Int):AI:=(m.1,e,false,false,true,false,([]:List Int),m.2.2.2.2.2.2.2.1,(0:Int),(0:Int),(0:Int),(0:Int),(U,U,(0:Int)),([]:List Int))
def Fa (m:AI) (views:List (List Int)) (e:Int):AI×List Bv×Bool :=
 if 2<=e/\e<=(views.length:Int)/\m.2.1<e/\(views.getD (e-1).toNat []).getD 0 0=m.1 then
  if (m.2.2.2.1&&(m.2.1==e-1)&&(views.getD (e-2).toNat []).contains m.1)=true then
   (Z6 (NK m e) (views.getD (e-1).toNat []) m.2.2.2.2.2.2.2.1,(Ck (views.getD (e-1).toNat []) m.1).map (fun v=>(3,m.1,v,e,0,m.2.2.2.2.2.2.2.1)),true)
  else (NK m e,(Ck (views.getD (e-2).toNat []) m.1).map (fun v=>(1,m.1,v,e,0,[])),true)
 else (Ln,[],false)
theorem LQ.new1 {m:AI} (h:LQ m) {e:Int} (he:1<=e/\e<=9):LQ (NK m e) :=
 ⟨h.id,he,fun hs=>(by cases hs),fun hf=>(by cases hf),⟨by simp [NK],by simp [NK]⟩,⟨by simp [NK],by simp [NK]⟩,h.items,⟨by simp [NK],by simp [NK]⟩,.inl hX⟩
theorem tw (m:AI) (views:List (List Int)) (e:Int) (hm:LQ m) (hv:VL views):ah m views e=some (Fa m views e):=AAQ (by
 have hvl:=hv.len
 have hep:=hm.ep
 have hl:=hm.lens
 unfold ny Fa
 rw [Ms hm,AA,if_neg (by simp),HI hv,AA,if_neg (by simp),BX,AA]
 by_cases h1:2<=e/\e<=(views.length:Int)
 case neg =>
  rw [if_pos (by rw [<- Bool.decide_and,decide_eq_false h1]; rfl),if_neg (fun h=>h1 ⟨h.1,h.2.1⟩)]
  rfl
 have we:IntKind.i64.wrap (e-1)=e-1:=Aa (by omega)
 have we2:IntKind.i64.wrap (e-2)=e-2:=Aa (by omega)
 rw [if_neg (by rw [<- Bool.decide_and,decide_eq_true h1]; simp),we]
 by_cases h2:m.2.1<e
 case neg =>
  rw [if_pos (by simp; omega),if_neg (fun h=>h2 h.2.2.1)]
  rfl
 have g1:=hv.get (i:=(e-1).toNat) (by omega)
 have g2:=hv.get (i:=(e-2).toNat) (by omega)
 rw [if_neg (by simp; omega),if_pos (by omega),if_pos (by omega),if_pos (by omega),if_pos (by omega),show (views.getD (e-1).toNat ([]:List Int)).getD (0:Int).toNat 0=(views.getD (e-1).toNat []).getD 0 0 from rfl]
 by_cases h3:(views.getD (e-1).toNat []).getD 0 0=m.1
 case neg =>
  rw [if_pos (by simpa using h3),if_neg (fun h=>h3 h.2.2.2)]
  rfl
 rw [if_neg (by simpa using h3),if_pos ⟨h1.1,h1.2,h2,h3⟩]
 have L2:∀ y,Gf views e 0 m y [] ([]++m.2.2.2.2.2.2.2.1) (NK m e)=some (NK m e,(Ck (views.getD (e-2).toNat []) m.1).map (fun v=>(1,m.1,v,e,0,[])),true):=by
  intro y
  have hcopy:=(hm.new1 (e:=e) (by omega)).copy
  have key':=Jy (n:=(views.getD (e-2).toNat []).length) (P:=fun i=>∀ acc:List Bv,acc.length<=i->Gf views e (i:Int) m y acc ([]++m.2.2.2.2.2.2.2.1) (NK m e)=some (NK m e,acc++(((views.getD (e-2).toNat []).drop i).filter (· != m.1)).map (fun v=>((1:Int),m.1,v,e,(0:Int),([]:List Ah))),true)) (fun acc ha=>c_ (by
   unfold Ry
   rw [we2,if_pos (by omega),if_pos (by omega),if_neg (by simp),hcopy]
   simp)) (fun i hi ih acc ha=>c_ (by
   unfold Ry
   rw [we2,if_pos (by omega),if_pos (by omega)]
   simp only [show ((i:Int)<((views.getD (e-2).toNat ([]:List Int)).length:Int)) from by omega,decide_true,if_true,show (0:Int)<=(i:Int) from by omega,Ab,AO (show i<9223372036854775807 by omega),show (0:Int)<=e-2 from by omega,show e-2<(views.length:Int) from by omega]
   rw [AW hi,Am hi,List.filter_cons]
   by_cases hh:((views.getD (e-2).toNat ([]:List Int))[i] != m.1)=true
   ·rw [if_pos hh,if_pos (by simp; omega),ih _ (by simp; omega),if_pos hh,List.map_cons,Bf]
    rfl
   ·rw [if_neg hh,ih _ (by omega),if_neg hh])) 0 (by omega) [] (by simp)
  exact key'
 have J1:∀ (b:Bool) y,Iu views e b m y []=some (if b=true then (Z6 (NK m e) (views.getD (e-1).toNat []) m.2.2.2.2.2.2.2.1,(Ck (views.getD (e-1).toNat []) m.1).map (fun v=>(3,m.1,v,e,0,m.2.2.2.2.2.2.2.1)),true) else (NK m e,(Ck (views.getD (e-2).toNat []) m.1).map (fun v=>(1,m.1,v,e,0,[])),true)):=fun b y=>tQ (by
  unfold cw
  rw [we,if_pos (by simp; omega)]
  cases b
  ·rw [if_neg (by simp)]
   exact L2 y
  ·rw [if_pos rfl,if_pos (by omega),if_pos (by omega)]
   have hh:=Z9 (views.getD (e-1).toNat []) m.2.2.2.2.2.2.2.1 (NK m e) (by omega) (by omega)
   have hc:=((hm.new1 (e:=e) (by omega)).has (view:=views.getD (e-1).toNat []) (its:=m.2.2.2.2.2.2.2.1) rfl rfl hm.items).copy
   unfold NK at hh hc ⊢
   simp only [List.nil_append]
   rw [hh,AA,hc]
   rfl)
 refine tR ?_
 unfold cz
 rw [we,we2,DR _ _ (by unfold maxLen; omega),AA]
 simp only [J1]
 rw [if_pos (show (0:Int)<=e-2 by omega),if_pos (show e-2<(views.length:Int) by omega)]
 cases m.2.2.2.1<;>cases (m.2.1==e-1)<;>cases (views.getD (e-2).toNat ([]:List Int)).contains m.1<;>rfl)
theorem aC {m:AI} {views:List (List Int)} {e:Int} (hm:LQ m) (hv:VL views):(Fa m views e).2.2=true->LQ (Fa m views e).1/\(Fa m views e).1.1=m.1/\lN m (Fa m views e).1 (Fa m views e).2.1/\(Fa m views e).2.1.length<=4:=by
 intro h
 have hvl:=hv.len
 have hep:=hm.ep
 unfold Fa at h ⊢
 split
 ·rename_i hc
  have he:1<=e/\e<=9:=by omega
  split
  ·have hw:=hv.wok (i:=(e-1).toNat) (by omega)
   refine ⟨(hm.new1 he).has rfl rfl hm.items,rfl,oQ (n:=Z6 (NK m e) (views.getD (e-1).toNat []) m.2.2.2.2.2.2.2.1) hm.id he hw.mem (by omega) (by omega) hm.items (by simp),?_⟩
   simp only [List.length_map]
   have:=Iq (views.getD (e-1).toNat []) m.1
   have:=hw.len
   omega
  ·have hw:=hv.wok (i:=(e-2).toNat) (by omega)
   refine ⟨hm.new1 he,rfl,oQ (n:=NK m e) hm.id he hw.mem (by omega) (by omega) Z_ (by simp),?_⟩
   simp only [List.length_map]
   have:=Iq (views.getD (e-2).toNat []) m.1
   have:=hw.len
   omega
 ·rename_i hc
  rw [if_neg hc] at h
  cases h
def dJ (m:AI):AI:=(m.1,m.2.1,true,false,false,false,([]:List Int),([]:List Ah),(0:Int),(0:Int),(0:Int),(0:Int),(U,U,(0:Int)),([]:List Int))
theorem yW (m:AI):fD m=some (dJ m):=ABN rfl
theorem LQ.fall1 {m:AI} (h:LQ m):LQ (dJ m) :=
 ⟨h.id,h.ep,fun hs=>(by cases hs),fun hf=>⟨rfl,rfl⟩,⟨by simp [dJ],by simp [dJ]⟩,⟨by simp [dJ],by simp [dJ]⟩,Z_,⟨by simp [dJ],by simp [dJ]⟩,.inl hX⟩
def IE (id:Int) (views:List (List Int)):AI :=
 (id,(1:Int),false,(views.getD 0 []).contains id,((views.getD 0 []).getD 0 0==id),((views.getD 0 []).getD 0 0==id),([]:List Int),([]:List Ah),(0:Int),(0:Int),(0:Int),(0:Int),(U,U,(0:Int)),([]:List Int))
theorem i_ (id:Int) (views:List (List Int)) (hi:1<=id/\id<=6) (hv:VL views):P3 id views=some (IE id views,true):=qV (by
 have hvl:=hv.len
 have g:=hv.get (i:=0) (by omega)
 unfold ZV
 rw [HI hv,AA,if_pos (by rfl),BX,AA,if_neg (by rw [<- Bool.decide_and,decide_eq_true hi]; simp)]
 refine iq ?_
 unfold Sv
 rw [show views.getD (0:Int).toNat ([]:List Int)=views.getD 0 [] from rfl,DR _ _ (by unfold maxLen; omega),AA]
 repeat rw [if_pos (by omega)]
 rfl)
theorem LQ.first1 {id:Int} {views:List (List Int)} (hi:1<=id/\id<=6) (hv:VL views):LQ (IE id views):=by
 have hvl:=hv.len
 have g:=hv.get (i:=0) (by omega)
 refine ⟨hi,by simp [IE],fun hs=>⟨?_,hs,rfl⟩,fun hf=>(by cases hf),⟨by simp [IE],by simp [IE]⟩,⟨by simp [IE],by simp [IE]⟩,Z_,⟨by simp [IE],by simp [IE]⟩,.inl hX⟩
 simp only [IE,beq_iff_eq] at hs ⊢
 rw [<- hs,List.contains_iff_mem,AW (show 0<(views.getD 0 []).length by omega)]
 exact BC _

abbrev O6:Type:=Int×ByteArray×ByteArray×Int×Int×Int×Int×Int×ByteArray
abbrev Aj:Type:=List (List Int)×List AI×List Bv×List O6
abbrev Ax:Type:=Int×Int×Int×Int×ByteArray×ByteArray
def Fb:O6:=((0:Int),U,U,(0:Int),(0:Int),(0:Int),(0:Int),(0:Int),U)
def D5:Bv:=((0:Int),(0:Int),(0:Int),(0:Int),(0:Int),([]:List Ah))
def Cc (g:Aj) (i:Nat):AI:=g.2.1.getD i Ln
theorem ACA (g:Aj) (i:Nat):g.2.1.getD i ((0:Int),(0:Int),false,false,false,false,([]:List Int),([]:List Ah),(0:Int),(0:Int),(0:Int),(0:Int),(U,U,(0:Int)),([]:List Int))=Cc g i:=rfl
structure RY (g:Aj) (n:Nat):Prop where
 views:VL g.1
 six:g.2.1.length=6
 mem:∀ i,i<6->LQ (Cc g i)/\(Cc g i).1=(i:Int)+1
 fly:∀ x∈g.2.2.1,XOk x
 flen:g.2.2.1.length<=8*n
 clen:g.2.2.2.length<=n
def aD (at_:Int) (s:DU) (c:O6):O6 :=
 (c.1,c.2.1,c.2.2.1,c.2.2.2.1,at_,s.2.2.2.2.2,s.2.1,s.2.2.1,if (c.1==2)=true then s.2.2.2.2.1 else c.2.2.2.2.2.2.2.2)
def Iw (at_:Int) (cs:List O6) (s:DU):List O6 :=
 if (decide (s.1>=(cs.length:Int))||decide ((cs.getD s.1.toNat Fb).2.2.2.2.1>=0))=true then cs else cs.set s.1.toNat (aD at_ s (cs.getD s.1.toNat Fb))
def Fc (g:Aj) (n:AI) (told:List Bv) (said:List DU) (at_:Int):Aj :=
 (g.1,g.2.1.set (n.1-1).toNat n,g.2.2.1++told,said.foldl (Iw at_) g.2.2.2)
theorem ADf (at_:Int) (cs:List O6) (s:DU):(Iw at_ cs s).length=cs.length:=by unfold Iw; split<;>simp
theorem lO (at_:Int):∀ (said:List DU) (cs:List O6),(said.foldl (Iw at_) cs).length=cs.length
 | [],cs=>rfl
 | s::l,cs=>by rw [List.foldl_cons,lO at_ l,ADf]
theorem AAV {α:Type} {l:List α} {i:Nat} {a d:α} (h:i<l.length):(l.set i a).getD i d=a:=by simp [List.getD,h]
theorem Hj (n:AI) (told:List Bv) (said:List DU) (at_:Int) (g:Aj) (hn:1<=n.1/\n.1<=6) (h6:g.2.1.length=6) (hf:g.2.2.1.length+told.length<=68719476736) (hc:g.2.2.2.length<=68719476736) (hs:rH said) :
  Fu n told said at_ g=some (Fc g n told said at_):=qW (by
 have hsl:=hs.1
 unfold ZW
 rw [Aa (show -9223372036854775808<=n.1-1/\n.1-1<=9223372036854775807 by omega)]
 simp only [List.nil_append,List.length_nil,Nat.zero_add]
 rw [if_pos (by omega),if_pos (by omega),if_pos (by omega),if_pos (by omega),if_pos (by omega)]
 have key:=Jy (n:=said.length) (P:=fun i=>∀ (cs:List O6),cs.length<=68719476736->C_ said at_ (i:Int) (g.1,g.2.1.set (n.1-1).toNat n,g.2.2.1++told,cs) n (g.2.1.set (n.1-1).toNat n) (g.2.2.1++told)=some (g.1,g.2.1.set (n.1-1).toNat n,g.2.2.1++told,(said.drop i).foldl (Iw at_) cs)) (fun cs hcs=>Sz (by
  unfold LK
  rw [if_neg (by simp)]
  simp)) (fun i hi ih cs hcs=>Sz (by
  unfold LK
  have hz:said.getD i ((0:Int),(0:Int),(0:Int),U,U,(0:Int))=said[i]:=AW hi
  have h0:=(hs.2 said[i] (BC hi)).1
  simp only [show ((i:Int)<(said.length:Int)) from by omega,decide_true,if_true,show (0:Int)<=(i:Int) from by omega,Ab,hz,AO (show i<9223372036854775807 by omega)]
  have hz3:cs.getD said[i].1.toNat ((0:Int),U,U,(0:Int),(0:Int),(0:Int),(0:Int),(0:Int),U)=cs.getD said[i].1.toNat Fb:=rfl
  rw [Am hi,List.foldl_cons,hz3]
  by_cases c1:said[i].1>=(cs.length:Int)
  ·rw [if_pos (by simpa using c1),ih cs hcs]
   have:Iw at_ cs said[i]=cs:=by unfold Iw; rw [if_pos (by simp [c1])]
   rw [this]
  ·rw [if_neg (by simpa using c1),if_pos (by omega),if_pos (by omega)]
   by_cases c2:(cs.getD said[i].1.toNat Fb).2.2.2.2.1>=0
   ·rw [if_pos (show decide ((cs.getD said[i].1.toNat Fb).2.2.2.2.1>=0)=true from decide_eq_true c2),ih cs hcs]
    have:Iw at_ cs said[i]=cs:=by unfold Iw; rw [if_pos (by rw [decide_eq_true c2,Bool.or_true])]
    rw [this]
   ·rw [if_neg (show ¬ decide ((cs.getD said[i].1.toNat Fb).2.2.2.2.1>=0)=true from fun h=>c2 (of_decide_eq_true h))]
    have hcl:said[i].1.toNat<cs.length:=by omega
    have e:Iw at_ cs said[i]=cs.set said[i].1.toNat (aD at_ said[i] (cs.getD said[i].1.toNat Fb)):=by unfold Iw; rw [if_neg (by rw [decide_eq_false c1,decide_eq_false c2]; simp)]
    rw [e]
    refine ir ?_
    unfold Sy
    have hz2:∀ (l:List O6),l.getD said[i].1.toNat ((0:Int),U,U,(0:Int),(0:Int),(0:Int),(0:Int),(0:Int),U)=l.getD said[i].1.toNat Fb:=fun l=>rfl
    simp only [List.nil_append,List.length_nil,Nat.zero_add,hz2,AAV hcl,List.set_set,List.length_set]
    have hk:∀ r,(if cs.length<=68719476736 then r else (none:Option Aj))=r:=fun r=>if_pos hcs
    rw [if_pos (show cs.length<=68719476736 from hcs),if_pos (show (0:Int)<=said[i].1 from h0),if_pos (show said[i].1<(cs.length:Int) by omega),AO (show i<9223372036854775807 by omega)]
    unfold aD
    by_cases c3:(cs.getD said[i].1.toNat Fb).1=2
    ·rw [if_pos (show ((cs.getD said[i].1.toNat Fb).1==2)=true by simpa using c3),if_pos (show ((cs.getD said[i].1.toNat Fb).1==2)=true by simpa using c3)]
     exact ih _ (by simpa using hcs)
    ·rw [if_neg (show ¬ ((cs.getD said[i].1.toNat Fb).1==2)=true by simpa using c3),if_neg (show ¬ ((cs.getD said[i].1.toNat Fb).1==2)=true by simpa using c3)]
     exact ih _ (by simpa using hcs))) 0 (by omega) g.2.2.2 hc
 exact key)
theorem xH {g:Aj} {n:AI} {told:List Bv} {said:List DU} {at_:Int} {i j:Nat} (h6:g.2.1.length=6) (hj:j<6) (hn:n.1=(i:Int)+1) (hi:i<6):Cc (Fc g n told said at_) j=if j=i then n else Cc g j:=by
 unfold Cc Fc
 simp only [hn,show ((i:Int)+1-1).toNat=i from by omega]
 by_cases e:j=i
 ·subst e
  rw [if_pos rfl]
  exact AAV (by omega)
 ·rw [if_neg e]
  simp [List.getD,BK,Ne.symm e]
theorem RY.member {g:Aj} {k:Nat} (h:RY g k) {n:AI} {told:List Bv} {said:List DU} {at_:Int} {i:Nat} (hi:i<6) (hn:LQ n) (hid:n.1=(i:Int)+1) (ht:∀ y∈told,XOk y) (hl:told.length<=4):RY (Fc g n told said at_) (k+1):=by
 refine ⟨h.views,by simp [Fc,h.six],fun j hj=>?_,fun x hx=>?_,?_,?_⟩
 ·rw [xH h.six hj hid hi]
  split
  ·rename_i e
   subst e
   exact ⟨hn,hid⟩
  ·exact h.mem j hj
 ·rcases CV.1 hx with h1 | h1
  ·exact h.fly x h1
  ·exact ht x h1
 ·have:=h.flen
  simp only [Fc,List.length_append]
  omega
 ·have:=h.clen
  simp only [Fc,lO]
  omega
def O7 (g:Aj) (at_:Int) (e:Ax):Aj:=(g.1,g.2.1,g.2.2.1,g.2.2.2++[(e.2.2.2.1,e.2.2.2.2.1,e.2.2.2.2.2,at_,-1,0,0,0,U)])
def LU (g:Aj) (at_:Int) (e:Ax):Int×Aj :=
 if (DY (Cc g (e.2.1-1).toNat) g.1 e.2.2.2.1 (g.2.2.2.length:Int) e.2.2.2.2.1 e.2.2.2.2.2).2.2.2=true then
  (0,Fc (O7 g at_ e) (DY (Cc g (e.2.1-1).toNat) g.1 e.2.2.2.1 (g.2.2.2.length:Int) e.2.2.2.2.1 e.2.2.2.2.2).1 (DY (Cc g (e.2.1-1).toNat) g.1 e.2.2.2.1 (g.2.2.2.length:Int) e.2.2.2.2.1 e.2.2.2.2.2).2.1 (DY (Cc g (e.2.1-1).toNat) g.1 e.2.2.2.1 (g.2.2.2.length:Int) e.2.2.2.2.1 e.2.2.2.2.2).2.2.1 at_)
 else (1,O7 g at_ e)
theorem hY {e:Ax} (h:IG e=true):1<=e.1/\e.1<=6/\1<=e.2.1/\e.2.1<=6/\0<=e.2.2.1:=by
 unfold IG at h
 simp only [AE,decide_eq_true_eq] at h
 omega
theorem AEv {m n:AI} {l:List Bv} (h:lN m n l):∀ y∈l,XOk y:=fun y hy=>(h y hy).1
theorem RY.began {at_:Int} {e:Ax} {g:Aj} {k:Nat} (hg:RY g k) (hn:1<=e.2.1/\e.2.1<=6):RY (LU g at_ e).2 (k+1)/\(LU g at_ e).2.1=g.1:=by
 have hc:=hg.clen
 obtain ⟨m1,m2⟩:=hg.mem (e.2.1-1).toNat (by omega)
 have hb:=aB (op:=e.2.2.2.1) (call:=(g.2.2.2.length:Int)) (key:=e.2.2.2.2.1) (val:=e.2.2.2.2.2) m1 hg.views
 refine ⟨?_,?_⟩
 ·unfold LU
  split
  ·rename_i hq
   have hid:=hb.id hq
   have hm:=hg.member (said:=(DY (Cc g (e.2.1-1).toNat) g.1 e.2.2.2.1 (g.2.2.2.length:Int) e.2.2.2.2.1 e.2.2.2.2.2).2.2.1) (at_:=at_) (i:=(e.2.1-1).toNat) (by omega) (hb.mok hq) (by rw [hid,m2]) (AEv (hb.told hq)) hb.tlen
   exact ⟨hm.views,hm.six,hm.mem,hm.fly,hm.flen,by simp only [Fc,lO,O7,List.length_append,List.length_cons,List.length_nil]; omega⟩
  ·exact ⟨hg.views,hg.six,hg.mem,hg.fly,by have:=hg.flen; show g.2.2.1.length<=_; omega,by simp only [O7,List.length_append,List.length_cons,List.length_nil]; omega⟩
 ·unfold LU; split<;>rfl
theorem lP (at_:Int) (e:Ax) (g:Aj) (k:Nat) (hg:RY g k) (hk:k<=1000) (hn:1<=e.2.1/\e.2.1<=6):Rl at_ e g=some (LU g at_ e)/\RY (LU g at_ e).2 (k+1)/\(LU g at_ e).2.1=g.1:=by
 have hc:=hg.clen
 have hf:=hg.flen
 have h6:=hg.six
 have wn:IntKind.i64.wrap (e.2.1-1)=e.2.1-1:=Aa (by omega)
 have wl:IntKind.i64.wrap (((g.2.2.2.length+1:Nat):Int)-1)=(g.2.2.2.length:Int):=by rw [Aa (by omega)]; omega
 obtain ⟨m1,m2⟩:=hg.mem (e.2.1-1).toNat (by omega)
 have hb:=aB (op:=e.2.2.2.1) (call:=(g.2.2.2.length:Int)) (key:=e.2.2.2.2.1) (val:=e.2.2.2.2.2) m1 hg.views
 refine ⟨tC ?_,hg.began hn⟩
 ·unfold cW LU
  simp only [List.nil_append,List.length_nil,Nat.zero_add,List.length_append,List.length_cons]
  rw [if_pos (by omega),if_pos (by omega),wn,if_pos (by omega),if_pos (by omega),wl,
   ACA g (e.2.1-1).toNat,
   tv _ _ _ _ _ _ m1 hg.views,AA]
  cases hq:(DY (Cc g (e.2.1-1).toNat) g.1 e.2.2.2.1 (g.2.2.2.length:Int) e.2.2.2.2.1 e.2.2.2.2.2).2.2.2 with
  | false=>rfl
  | true =>
   have hid:=hb.id hq
   have hmo:=hb.mok hq
   have htl:=hb.tlen
   rw [if_neg (by simp),if_pos rfl]
   have:=Hj (DY (Cc g (e.2.1-1).toNat) g.1 e.2.2.2.1 (g.2.2.2.length:Int) e.2.2.2.2.1 e.2.2.2.2.2).1 (DY (Cc g (e.2.1-1).toNat) g.1 e.2.2.2.1 (g.2.2.2.length:Int) e.2.2.2.2.1 e.2.2.2.2.2).2.1 (DY (Cc g (e.2.1-1).toNat) g.1 e.2.2.2.1 (g.2.2.2.length:Int) e.2.2.2.2.1 e.2.2.2.2.2).2.2.1 at_ (O7 g at_ e) hmo.id h6 (by show g.2.2.1.length+_<=_; omega) (by simp only [O7,List.length_append,List.length_cons,List.length_nil]; omega) hb.said
   unfold O7 at this ⊢
   rw [this]
   rfl

def IF (g:Aj) (at_:Int) (m:AI) (node:Int):Nat->Int->Int×Aj
 | 0,_=>(1,g)
 | k+1,e=>if ((g.1.getD (e-1).toNat []).getD 0 0 != node)=true then IF g at_ m node k (e+1)
  else if (Fa m g.1 e).2.2=true then (0,Fc g (Fa m g.1 e).1 (Fa m g.1 e).2.1 [] at_) else (1,g)
def gY (g:Aj) (at_ node:Int):Int×Aj:=IF g at_ (Cc g (node-1).toNat) node ((g.1.length:Int)-(Cc g (node-1).toNat).2.1).toNat ((Cc g (node-1).toNat).2.1+1)
theorem RY.up {g:Aj} {k:Nat} (h:RY g k):RY g (k+1):=⟨h.views,h.six,h.mem,h.fly,by have:=h.flen; omega,by have:=h.clen; omega⟩
theorem RY.adopted {at_ node:Int} {g:Aj} {k:Nat} (hg:RY g k) (hn:1<=node/\node<=6):∀ (j:Nat) (e:Int),RY (IF g at_ (Cc g (node-1).toNat) node j e).2 (k+1)/\(IF g at_ (Cc g (node-1).toNat) node j e).2.1=g.1
 | 0,_=>⟨hg.up,rfl⟩
 | j+1,e=>by
  obtain ⟨m1,m2⟩:=hg.mem (node-1).toNat (by omega)
  unfold IF
  split
  ·exact RY.adopted hg hn j (e+1)
  ·split
   ·rename_i hq
    obtain ⟨a1,a2,a3,a4⟩:=aC (e:=e) m1 hg.views hq
    exact ⟨hg.member (i:=(node-1).toNat) (by omega) a1 (by rw [a2,m2]) (AEv a3) a4,rfl⟩
   ·exact ⟨hg.up,rfl⟩
theorem lQ (at_ node:Int) (g:Aj) (k:Nat) (hg:RY g k) (hk:k<=1000) (hn:1<=node/\node<=6):Rm at_ node g=some (gY g at_ node)/\RY (gY g at_ node).2 (k+1)/\(gY g at_ node).2.1=g.1:=by
 have hc:=hg.clen
 have hf:=hg.flen
 have h6:=hg.six
 have hvl:=hg.views.len
 have wn:IntKind.i64.wrap (node-1)=node-1:=Aa (by omega)
 obtain ⟨m1,m2⟩:=hg.mem (node-1).toNat (by omega)
 have hep:=m1.ep
 have wm:IntKind.i64.wrap ((Cc g (node-1).toNat).2.1+1)=(Cc g (node-1).toNat).2.1+1:=Aa (by omega)
 have key:∀ (j:Nat) (e:Int),e=(g.1.length:Int)+1-(j:Int)->2<=e->Ij at_ node e g (Cc g (node-1).toNat)=some (IF g at_ (Cc g (node-1).toNat) node j e):=by
  intro j
  induction j with
  | zero =>
   intro e he h2
   refine Mn ?_
   unfold Ik
   rw [if_neg (by simp; omega)]
   rfl
  | succ j ih =>
   intro e he h2
   have we:IntKind.i64.wrap (e-1)=e-1:=Aa (by omega)
   have we2:IntKind.i64.wrap (e+1)=e+1:=Aa (by omega)
   have gv:=hg.views.get (i:=(e-1).toNat) (by omega)
   have ha:=aC (e:=e) m1 hg.views
   have i1:=ih (e+1) (by omega) (by omega)
   unfold IF
   refine Mn ?_
   ·unfold Ik
    rw [if_pos (by simp; omega),we,we2,if_pos (by omega),if_pos (by omega),if_pos (by omega),if_pos (by omega),show (g.1.getD (e-1).toNat ([]:List Int)).getD (0:Int).toNat 0=(g.1.getD (e-1).toNat []).getD 0 0 from rfl]
    by_cases h3:((g.1.getD (e-1).toNat []).getD 0 0 != node)=true
    ·rw [if_pos h3,if_pos h3,i1]
    ·rw [if_neg h3,if_neg h3,tw _ _ _ m1 hg.views,AA]
     cases hq:(Fa (Cc g (node-1).toNat) g.1 e).2.2 with
     | false=>rfl
     | true =>
      obtain ⟨a1,a2,a3,a4⟩:=ha hq
      rw [if_neg (by simp),if_pos rfl,Hj _ _ _ _ _ a1.id h6 (by omega) (by omega) GI]
      rfl
 have hmain:=key ((g.1.length:Int)-(Cc g (node-1).toNat).2.1).toNat ((Cc g (node-1).toNat).2.1+1)
 by_cases hle:(Cc g (node-1).toNat).2.1<=(g.1.length:Int)
 ·have k1:=hmain (by omega) (by omega)
  refine ⟨cX ?_,hg.adopted hn _ _⟩
  unfold Rs
  rw [wn,if_pos (by omega),if_pos (by omega),ACA g (node-1).toNat,wm]
  exact k1
 ·have e0:((g.1.length:Int)-(Cc g (node-1).toNat).2.1).toNat=0:=by omega
  unfold gY
  rw [e0]
  refine ⟨cX ?_,hg.up,rfl⟩
  unfold Rs
  rw [wn,if_pos (by omega),if_pos (by omega),ACA g (node-1).toNat,wm]
  refine Mn ?_
  unfold Ik
  rw [if_neg (fun h=>hle (by have:=of_decide_eq_true h; omega))]
  rfl
def O8 (g:Aj) (i:Nat):Aj:=(g.1,g.2.1,g.2.2.1.take i++g.2.2.1.drop (i+1),g.2.2.2)
def jA (g:Aj) (at_:Int) (e:Ax):Int×Aj :=
 if g.2.2.1=[] then (1,g)
 else if e.1=4 then (0,(g.1,g.2.1,g.2.2.1++[g.2.2.1.getD (e.2.2.1 % (g.2.2.1.length:Int)).toNat D5],g.2.2.2))
 else if e.1=3 then (0,O8 g (e.2.2.1 % (g.2.2.1.length:Int)).toNat)
 else (0,Fc (O8 g (e.2.2.1 % (g.2.2.1.length:Int)).toNat)
  (EB (Cc g ((g.2.2.1.getD (e.2.2.1 % (g.2.2.1.length:Int)).toNat D5).2.2.1-1).toNat) g.1 (g.2.2.1.getD (e.2.2.1 % (g.2.2.1.length:Int)).toNat D5)).1
  (EB (Cc g ((g.2.2.1.getD (e.2.2.1 % (g.2.2.1.length:Int)).toNat D5).2.2.1-1).toNat) g.1 (g.2.2.1.getD (e.2.2.1 % (g.2.2.1.length:Int)).toNat D5)).2.1
  (EB (Cc g ((g.2.2.1.getD (e.2.2.1 % (g.2.2.1.length:Int)).toNat D5).2.2.1-1).toNat) g.1 (g.2.2.1.getD (e.2.2.1 % (g.2.2.1.length:Int)).toNat D5)).2.2 at_)
theorem RY.less {g:Aj} {k:Nat} (h:RY g k) (i:Nat):RY (O8 g i) k:=by
 refine ⟨h.views,h.six,h.mem,fun x hx=>?_,?_,h.clen⟩
 ·rcases CV.1 hx with h1 | h1
  ·exact h.fly x (List.mem_of_mem_take h1)
  ·exact h.fly x (List.mem_of_mem_drop h1)
 ·have:=h.flen
  simp only [O8,List.length_append,List.length_take,List.length_drop]
  omega
theorem RY.flew {at_:Int} {e:Ax} {g:Aj} {k:Nat} (hg:RY g k):RY (jA g at_ e).2 (k+1)/\(jA g at_ e).2.1=g.1:=by
 have hc:=hg.clen
 have hf:=hg.flen
 unfold jA
 split
 ·exact ⟨hg.up,rfl⟩
 ·rename_i h0
  have hl:0<g.2.2.1.length:=List.length_pos_iff.2 h0
  have hr0:=Int.emod_nonneg e.2.2.1 (show (g.2.2.1.length:Int)≠0 by omega)
  have hr1:=Int.emod_lt_of_pos e.2.2.1 (show 0<(g.2.2.1.length:Int) by omega)
  generalize hq:e.2.2.1 % (g.2.2.1.length:Int)=q at hr0 hr1
  have hx:=hg.fly (g.2.2.1.getD q.toNat D5) (by rw [AW (show q.toNat<g.2.2.1.length by omega)]; exact BC _)
  have hto:=hx.to
  obtain ⟨m1,m2⟩:=hg.mem ((g.2.2.1.getD q.toNat D5).2.2.1-1).toNat (by omega)
  have hh:=aA (x:=g.2.2.1.getD q.toNat D5) m1 hg.views
  have hless:=hg.less q.toNat
  split
  ·refine ⟨⟨hg.views,hg.six,hg.mem,fun x hx'=>?_,by simp only [List.length_append,List.length_cons,List.length_nil]; omega,by show g.2.2.2.length<=_; omega⟩,rfl⟩
   rcases CV.1 hx' with h1 | h1
   ·exact hg.fly x h1
   ·simp only [Bq] at h1; subst h1; exact hx
  ·split
   ·exact ⟨hless.up,rfl⟩
   ·exact ⟨hless.member (i:=((g.2.2.1.getD q.toNat D5).2.2.1-1).toNat) (by omega) hh.mok (by rw [hh.id,m2]) (AEv hh.told) hh.tlen,rfl⟩
theorem rJ (at_:Int) (e:Ax) (g:Aj) (k:Nat) (hg:RY g k) (hk:k<=1000) (hn:0<=e.2.2.1):X5 at_ e g=some (jA g at_ e)/\RY (jA g at_ e).2 (k+1)/\(jA g at_ e).2.1=g.1:=by
 have hc:=hg.clen
 have hf:=hg.flen
 have h6:=hg.six
 have hvl:=hg.views.len
 refine ⟨yN ?_,hg.flew⟩
 by_cases h0:g.2.2.1=[]
 ·unfold jA
  rw [if_pos h0]
  unfold X9
  rw [h0,if_pos (by rfl)]
 ·have hl:0<g.2.2.1.length:=List.length_pos_iff.2 h0
  have hm:Int.tmod e.2.2.1 (g.2.2.1.length:Int)=e.2.2.1 % (g.2.2.1.length:Int):=Int.tmod_eq_emod_of_nonneg hn
  have hr0:=Int.emod_nonneg e.2.2.1 (show (g.2.2.1.length:Int)≠0 by omega)
  have hr1:=Int.emod_lt_of_pos e.2.2.1 (show 0<(g.2.2.1.length:Int) by omega)
  generalize hq:e.2.2.1 % (g.2.2.1.length:Int)=q at hm hr0 hr1
  have hx:=hg.fly (g.2.2.1.getD q.toNat D5) (by rw [AW (show q.toNat<g.2.2.1.length by omega)]; exact BC _)
  have wq:IntKind.i64.wrap (q+1)=q+1:=Aa (by omega)
  have hto:=hx.to
  have wt:IntKind.i64.wrap ((g.2.2.1.getD q.toNat D5).2.2.1-1)=(g.2.2.1.getD q.toNat D5).2.2.1-1:=Aa (by omega)
  obtain ⟨m1,m2⟩:=hg.mem ((g.2.2.1.getD q.toNat D5).2.2.1-1).toNat (by omega)
  have hh:=aA (x:=g.2.2.1.getD q.toNat D5) m1 hg.views
  have hless:=hg.less q.toNat
  have hxl:=NE hx.items
  have hz:g.2.2.1.getD q.toNat ((0:Int),(0:Int),(0:Int),(0:Int),(0:Int),([]:List Ah))=g.2.2.1.getD q.toNat D5:=rfl
  have hz2:∀ i,g.2.1.getD i ((0:Int),(0:Int),false,false,false,false,([]:List Int),([]:List Ah),(0:Int),(0:Int),(0:Int),(0:Int),(U,U,(0:Int)),([]:List Int))=Cc g i:=fun i=>rfl
  have e1:(g.2.2.1.take q.toNat).drop (0:Int).toNat=g.2.2.1.take q.toNat:=rfl
  have e2:(g.2.2.1.take (g.2.2.1.length:Int).toNat).drop (q+1).toNat=g.2.2.1.drop (q.toNat+1):=by
   rw [show (g.2.2.1.length:Int).toNat=g.2.2.1.length from by omega,List.take_length,show (q+1).toNat=q.toNat+1 from by omega]
  unfold jA
  rw [if_neg h0,hq]
  ·unfold X9
   rw [if_neg (by simp; exact h0),if_neg (by omega),hm,hz,wq,wt,hz2,e1,e2,if_pos hr0,if_pos hr1]
   simp only [List.nil_append,List.length_nil,Nat.zero_add]
   by_cases h4:e.1=4
   ·rw [if_pos (by simpa using h4),if_pos h4,if_pos (by omega),if_pos (by simp; omega)]
   ·rw [if_neg (by simpa using h4),if_neg h4,if_pos (by omega),if_pos hr0,if_pos (by omega),if_pos (by omega),if_pos (by omega),if_pos (by omega),if_pos (by simp; omega),if_pos (by simp; omega)]
    by_cases h3:e.1=3
    ·rw [if_pos (by simpa using h3),if_pos h3]
     rfl
    ·rw [if_neg (by simpa using h3),if_neg h3,if_pos (by omega),if_pos (by omega),oP _ _ _ m1 hg.views (by omega),AA]
     have htl:=hh.tlen
     have:=Hj (EB (Cc g ((g.2.2.1.getD q.toNat D5).2.2.1-1).toNat) g.1 (g.2.2.1.getD q.toNat D5)).1 (EB (Cc g ((g.2.2.1.getD q.toNat D5).2.2.1-1).toNat) g.1 (g.2.2.1.getD q.toNat D5)).2.1 (EB (Cc g ((g.2.2.1.getD q.toNat D5).2.2.1-1).toNat) g.1 (g.2.2.1.getD q.toNat D5)).2.2 at_ (O8 g q.toNat) hh.mok.id h6 (by have:=hless.flen; omega) (by have:=hless.clen; omega) hh.said
     unfold O8 at this ⊢
     rw [this]
     rfl
def r8 (g:Aj) (at_:Int) (e:Ax):Int×Aj :=
 if e.1=1 then LU g at_ e else if e.1=5 then gY g at_ e.2.1
 else if e.1=6 then (0,Fc g (dJ (Cc g (e.2.1-1).toNat)) [] [] at_) else jA g at_ e
theorem RY.event {at_:Int} {e:Ax} {g:Aj} {k:Nat} (hg:RY g k) (he:IG e=true):RY (r8 g at_ e).2 (k+1)/\(r8 g at_ e).2.1=g.1:=by
 have hn:=hY he
 unfold r8
 split
 ·exact hg.began (by omega)
 ·split
  ·exact hg.adopted (by omega) _ _
  ·split
   ·obtain ⟨m1,m2⟩:=hg.mem (e.2.1-1).toNat (by omega)
    exact ⟨hg.member (i:=(e.2.1-1).toNat) (by omega) m1.fall1 m2 (fun y hy=>by cases hy) (by simp),rfl⟩
   ·exact hg.flew
theorem dL (at_:Int) (e:Ax) (g:Aj) (k:Nat) (hg:RY g k) (hk:k<=1000) (he:IG e=true):TI at_ e g=some (r8 g at_ e)/\RY (r8 g at_ e).2 (k+1)/\(r8 g at_ e).2.1=g.1:=by
 have hn:=hY he
 have h6:=hg.six
 have hc:=hg.clen
 have hf:=hg.flen
 refine ⟨AAJ ?_,hg.event he⟩
 unfold r8
 by_cases h1:e.1=1
 ·have a:=(lP at_ e g k hg hk (by omega)).1
  rw [if_pos h1]
  unfold OT
  rw [if_pos (by simpa using h1),a]
  rfl
 ·rw [if_neg h1]
  by_cases h5:e.1=5
  ·have a:=(lQ at_ e.2.1 g k hg hk (by omega)).1
   rw [if_pos h5]
   unfold OT
   rw [if_neg (by simpa using h1),if_pos (by simpa using h5),a]
   rfl
  ·rw [if_neg h5]
   by_cases h7:e.1=6
   ·obtain ⟨m1,m2⟩:=hg.mem (e.2.1-1).toNat (by omega)
    rw [if_pos h7]
    have wn:IntKind.i64.wrap (e.2.1-1)=e.2.1-1:=Aa (by omega)
    unfold OT
    rw [if_neg (by simpa using h1),if_neg (by simpa using h5),if_pos (by simpa using h7),wn,if_pos (by omega),if_pos (by omega),
     ACA g (e.2.1-1).toNat,
     yW,AA,Hj _ _ _ _ _ m1.fall1.id h6 (by simp; omega) (by omega) GI]
    rfl
   ·have a:=(rJ at_ e g k hg hk (by omega)).1
    rw [if_neg h7]
    unfold OT
    rw [if_neg (by simpa using h1),if_neg (by simpa using h5),if_neg (by simpa using h7),a]
    rfl

theorem O9 (x:List (List Int)) (h:x.length<=1000) (ho:∀ a∈x,a.length<=1000):HW x=some x:=ip (by
 unfold Ss
 have key:=Jy (n:=x.length) (P:=fun i=>FY x (i:Int) (x.take i)=some x) (Oe (by
  unfold Ii
  rw [if_neg (by simp),List.take_length])) (fun i hi ih=>Oe (by
  unfold Ii
  have:=ho x[i] (BC hi)
  simp only [show ((i:Int)<(x.length:Int)) from by omega,decide_true,if_true,show (0:Int)<=(i:Int) from by omega,Ab,AW hi,AO (show i<9223372036854775807 by omega),List.nil_append,List.length_nil,Nat.zero_add,List.length_cons,List.length_take]
  rw [if_pos (by omega),if_pos (by omega),List.take_append_getElem]
  exact ih)) 0 (by omega)
 exact key)
theorem dt (x:List Bv) (h:x.length<=100000) (ho:∀ a∈x,a.2.2.2.2.2.length<=1000):MP x=some x:=kz (by
 unfold U0
 have key:=Jy (n:=x.length) (P:=fun i=>EJ x (i:Int) (x.take i)=some x) (PT (by
  unfold JE
  rw [if_neg (by simp),List.take_length])) (fun i hi ih=>PT (by
  unfold JE
  have:=ho x[i] (BC hi)
  simp only [show ((i:Int)<(x.length:Int)) from by omega,decide_true,if_true,show (0:Int)<=(i:Int) from by omega,Ab,AW hi,AO (show i<9223372036854775807 by omega),List.nil_append,List.length_nil,Nat.zero_add,List.length_cons,List.length_take]
  rw [if_pos (by omega),if_pos (by omega)]
  change EJ x _ (x.take i++[x[i]])=_
  rw [List.take_append_getElem]
  exact ih)) 0 (by omega)
 exact key)
theorem oR (g:Aj) (k:Nat) (hg:RY g k) (hk:k<=1000):UC g=some g:=wC (by
 have hvl:=hg.views.len
 have hc:=hg.clen
 have hf:=hg.flen
 have h6:=hg.six
 unfold fT
 rw [O9 g.1 (by omega) (fun a ha=>by have:=hg.views.view ha; omega),AA,dt g.2.2.1 (by omega) (fun a ha=>by have:=NE (hg.fly a ha).items; omega),AA,if_pos (by simp; omega)]
 have key:∀ (a b c d e:_),G6 ((0:Nat):Int) g.1 g.2.1 g.2.2.1 g.2.2.2 a b c d e [] g.1 g.2.2.1 ([]++g.2.2.2)=some g:=by
  intro a b c d e
  have key':=Jy (n:=g.2.1.length) (P:=fun i=>G6 (i:Int) g.1 g.2.1 g.2.2.1 g.2.2.2 a b c d e (g.2.1.take i) g.1 g.2.2.1 ([]++g.2.2.2)=some g) (W8 (by
   unfold OU
   rw [if_neg (by simp),List.take_length]
   rfl)) (fun i hi ih=>W8 (by
   unfold OU
   have hm:=(hg.mem i (by omega)).1
   unfold Cc at hm
   rw [AW hi] at hm
   simp only [show ((i:Int)<(g.2.1.length:Int)) from by omega,decide_true,if_true,show (0:Int)<=(i:Int) from by omega,Ab,AW hi,hm.copy,AA,AO (show i<9223372036854775807 by omega),List.length_take,List.length_cons,List.length_nil]
   rw [if_pos (by omega),List.take_append_getElem]
   exact ih)) 0 (by omega)
  exact key'
 exact key _ _ _ _ _)
def Ar (views:List (List Int)):Aj:=(views,[IE 1 views,IE 2 views,IE 3 views,IE 4 views,IE 5 views,IE 6 views],[],[])
theorem TV {views:List (List Int)} (hv:VL views):RY (Ar views) 0:=by
 refine ⟨hv,rfl,fun i hi=>?_,fun x hx=>(by cases hx),(by simp [Ar]),(by simp [Ar])⟩
 have h5:i=0\/i=1\/i=2\/i=3\/i=4\/i=5:=by omega
 rcases h5 with rfl | rfl | rfl | rfl | rfl | rfl<;>exact ⟨LQ.first1 (by omega) hv,rfl⟩
theorem O_ {views:List (List Int)} (hv:VL views):L6 views=some (Ar views,true):=tA (by
 have hvl:=hv.len
 unfold cU
 rw [HI hv,AA,if_neg (by simp),O9 views (by omega) (fun a ha=>by have:=hv.view ha; omega),AA]
 have step:∀ (i:Nat) (a:_) (b:_) (c:_) (d:_) (l:List AI) r,1<=i->i<=6->l.length<=6->GC views ((i+1:Nat):Int) a b c d (l++[IE (i:Int) views]) views=some r->GC views (i:Int) a b c d l views=some r:=by
  intro i a b c d l r h1 h6 hl hr
  refine Ut ?_
  unfold Ml
  rw [if_pos (by simp; omega),i_ _ _ (by omega) hv,AA,if_pos (by simp; omega),AO (show i<9223372036854775807 by omega)]
  exact hr
 refine step 1 _ _ _ _ _ _ (by omega) (by omega) (by simp) ?_
 refine step 2 _ _ _ _ _ _ (by omega) (by omega) (by simp) ?_
 refine step 3 _ _ _ _ _ _ (by omega) (by omega) (by simp) ?_
 refine step 4 _ _ _ _ _ _ (by omega) (by omega) (by simp) ?_
 refine step 5 _ _ _ _ _ _ (by omega) (by omega) (by simp) ?_
 refine step 6 _ _ _ _ _ _ (by omega) (by omega) (by simp) ?_
 refine Ut ?_
 unfold Ml
 rw [if_neg (by decide)]
 rfl)
def Fv:Nat->List Ax->Aj->List Int->Aj×List Int
 | _,[],g,cs=>(g,cs)
 | n,e::es,g,cs=>Fv (n+1) es (r8 g (n:Int) e).2 (cs++[(r8 g (n:Int) e).1])
theorem oS:∀ (es:List Ax) (n:Nat) (g:Aj) (cs:List Int),RY g n->n+es.length<=70->(∀ e∈es,IG e=true)->RY (Fv n es g cs).1 (n+es.length)/\(Fv n es g cs).1.1=g.1/\(Fv n es g cs).2.length=cs.length+es.length
 | [],n,g,cs,hg,_,_=>⟨hg,rfl,rfl⟩
 | e::es,n,g,cs,hg,hn,he=>by
  simp only [List.length_cons] at hn
  obtain ⟨h2,h3⟩:=hg.event (at_:=(n:Int)) (he e (by simp))
  obtain ⟨h4,h5,h6⟩:=oS es (n+1) _ (cs++[(r8 g (n:Int) e).1]) h2 (by omega) (fun x hx=>he x (by simp [hx]))
  refine ⟨?_,h5.trans h3,?_⟩
  ·have:n+(e::es).length=n+1+es.length:=by simp only [List.length_cons]; omega
   rw [this]
   exact h4
  ·simp only [Fv,h6,List.length_append,List.length_cons,List.length_nil]
   omega
theorem oT {views:List (List Int)} {events:List Ax} (hv:VL views) (hl:events.length<=70) (he:∀ e∈events,IG e=true) :
  Rh views events=some ((Fv 0 events (Ar views) []).1,(Fv 0 events (Ar views) []).2,true):=ss (by
 have hg:=TV hv
 obtain ⟨r1,r2,r3⟩:=oS events 0 (Ar views) [] hg (by omega) he
 unfold cM
 rw [O_ hv,AA]
 have L3:∀ y,F9 events ((0:Nat):Int) y (Ar views) []=some ((Fv 0 events (Ar views) []).1,(Fv 0 events (Ar views) []).2,true):=by
  intro y
  have key:=Jy (n:=events.length) (P:=fun i=>∀ (g:Aj) (cs:List Int),RY g i->cs.length=i->Fv i (events.drop i) g cs=Fv 0 events (Ar views) []->F9 events (i:Int) y g cs=some ((Fv 0 events (Ar views) []).1,(Fv 0 events (Ar views) []).2,true)) (fun g cs hgi hcs hr=>Ud (by
   unfold MZ
   rw [if_neg (by simp),oR g events.length hgi (by omega),AA]
   rw [List.drop_eq_nil_of_le (Nat.le_refl _)] at hr
   rw [<- hr]
   rfl)) (fun i hi ih g cs hgi hcs hr=>Ud (by
   unfold MZ
   obtain ⟨d1,d2,_⟩:=dL (i:Int) events[i] g i hgi (by omega) (he _ (BC hi))
   simp only [show ((i:Int)<(events.length:Int)) from by omega,decide_true,if_true,show (0:Int)<=(i:Int) from by omega,Ab,AW hi,d1,AA,AO (show i<9223372036854775807 by omega)]
   rw [if_pos (by simp; omega)]
   refine ih _ _ d2 (by simp; omega) ?_
   rw [Am hi] at hr
   exact hr)) 0 (by omega) (Ar views) [] hg rfl rfl
  exact key
 have L0:∀ y,EV events true ((0:Nat):Int) y (Ar views)=some ((Fv 0 events (Ar views) []).1,(Fv 0 events (Ar views) []).2,true):=by
  intro y
  have J2:Ie events true y (Ar views)=some ((Fv 0 events (Ar views) []).1,(Fv 0 events (Ar views) []).2,true):=kN (by
   unfold Uc
   rw [if_neg (by simp)]
   exact L3 y)
  refine Jy (n:=events.length) (P:=fun i=>EV events true (i:Int) y (Ar views)=some ((Fv 0 events (Ar views) []).1,(Fv 0 events (Ar views) []).2,true)) (Ue (by
   unfold Ma
   rw [if_neg (by simp)]
   exact J2)) (fun i hi ih=>Ue (by
   unfold Ma
   rw [if_pos (by simpa using hi),if_pos rfl]
   refine kM ?_
   unfold Ub
   have hz:events.getD i ((0:Int),(0:Int),(0:Int),(0:Int),U,U)=events[i]:=AW hi
   rw [if_pos (by simp; omega),if_pos (by omega),if_pos (by omega),Ab,hz,Xn,he _ (BC hi),AA,AO (show i<9223372036854775807 by omega)]
   exact ih)) 0 (by omega)
 exact L0 _)
theorem lR (d:Iv) (h:YG d):∃ v d',Rn d=some (v,d')/\YG d'/\VL v:=by
 have inner:∀ (m j:Nat),j+m=3->∀ (i:Int) (d:Iv) (vs:List (List Int)) (v:List Int),YG d->0<=i->vs.length<=10->v.length<=j->(j=0\/1<=v.length)->(∀ a∈v,1<=a/\a<=6)->v.Nodup ->
   ∃ v' d',WOk v'/\YG d'/\∀ r,GE (IntKind.i64.wrap (i+1)) d' (vs++[v'])=some r->GD i (j:Int) d vs v=some r:=by
  intro m
  induction m with
  | zero =>
   intro j hj i d vs v hd hi hvs hv h1 hm hnd
   obtain ⟨y,d1,e1,k1,y0,y1⟩:=Be 3 d hd
   have y1:=y1 (by omega)
   refine ⟨v,d1,⟨by omega,hm,hnd⟩,k1,fun r hr=>Im ?_⟩
   unfold GF
   have wy:IntKind.i64.wrap (1+y)=1+y:=Aa (by omega)
   rw [e1,AA,wy,if_neg (by simp; omega),if_pos (by simp; omega)]
   exact hr
  | succ m ih =>
   intro j hj i d vs v hd hi hvs hv h1 hm hnd
   obtain ⟨y,d1,e1,k1,y0,y1⟩:=Be 3 d hd
   have y1:=y1 (by omega)
   have wy:IntKind.i64.wrap (1+y)=1+y:=Aa (by omega)
   by_cases hlt:(j:Int)<1+y
   ·obtain ⟨z,d2,e2,k2,z0,z1⟩:=Be 4 d1 k1
    have z1:=z1 (by omega)
    have wz:IntKind.i64.wrap (1+z)=1+z:=Aa (by omega)
    by_cases hc:v.contains (1+z)=true
    ·obtain ⟨v',d',w1,w2,w3⟩:=ih (j+1) (by omega) i d2 vs v k2 hi hvs (by omega) (.inr (by
      cases v with
      | nil=>simp at hc
      | cons a v=>simp)) hm hnd
     refine ⟨v',d',w1,w2,fun r hr=>Im ?_⟩
     unfold GF
     rw [e1,AA,wy,if_pos (by simpa using hlt),e2,AA,wz,DR v _ (by unfold maxLen; omega),AA,hc,if_neg (by simp),AO (show j<9223372036854775807 by omega)]
     exact w3 r hr
    ·have hc':v.contains (1+z)=false:=by simpa using hc
     obtain ⟨v',d',w1,w2,w3⟩:=ih (j+1) (by omega) i d2 vs (v++[1+z]) k2 hi hvs (by simp; omega) (.inr (by simp)) (fun a ha=>by
      rcases CV.1 ha with h | h
      ·exact hm a h
      ·simp only [Bq] at h; omega) (by
      rw [List.nodup_append]
      refine ⟨hnd,by simp,fun a ha b hb e=>?_⟩
      simp only [Bq] at hb
      subst hb
      subst e
      rw [List.contains_iff_mem.2 ha] at hc'
      cases hc')
     refine ⟨v',d',w1,w2,fun r hr=>Im ?_⟩
     unfold GF
     rw [e1,AA,wy,if_pos (by simpa using hlt),e2,AA,wz,DR v _ (by unfold maxLen; omega),AA,hc',if_pos (by rfl),if_pos (by simp; omega),AO (show j<9223372036854775807 by omega)]
     exact w3 r hr
   ·refine ⟨v,d1,⟨by omega,hm,hnd⟩,k1,fun r hr=>Im ?_⟩
    unfold GF
    rw [e1,AA,wy,if_neg (by simpa using hlt),if_pos (by simp; omega)]
    exact hr
 have outer:∀ (m i:Nat),i+m=5->∀ (d:Iv) (vs:List (List Int)),YG d->vs.length=i->(∀ v∈vs,WOk v)->∃ v' d',GE (i:Int) d vs=some (v',d')/\YG d'/\VL v':=by
  have fin:∀ (vs:List (List Int)),1<=vs.length->vs.length<=5->(∀ v∈vs,WOk v)->VL vs:=fun vs h1 h2 h3=>⟨I4.2 ⟨fun v hv=>AAT.2 (h3 v hv),h1,by omega⟩⟩
  intro m
  induction m with
  | zero =>
   intro i hi d vs hd hl hv
   obtain ⟨y,d1,e1,k1,y0,y1⟩:=Be 5 d hd
   have y1:=y1 (by omega)
   have wy:IntKind.i64.wrap (1+y)=1+y:=Aa (by omega)
   refine ⟨vs,d1,Mq ?_,k1,fin vs (by omega) (by omega) hv⟩
   unfold Il
   rw [e1,AA,wy,if_neg (by simp; omega)]
  | succ m ih =>
   intro i hi d vs hd hl hv
   obtain ⟨y,d1,e1,k1,y0,y1⟩:=Be 5 d hd
   have y1:=y1 (by omega)
   have wy:IntKind.i64.wrap (1+y)=1+y:=Aa (by omega)
   by_cases hlt:(i:Int)<1+y
   ·obtain ⟨v',d2,w1,k2,w3⟩:=inner 3 0 (by omega) (i:Int) d1 vs [] k1 (by omega) (by omega) (by simp) (.inl rfl) (by simp) (by simp)
    obtain ⟨r1,d3,q1,q2,q3⟩:=ih (i+1) (by omega) d2 (vs++[v']) k2 (by simp; omega) (fun v hv'=>by
     rcases CV.1 hv' with h | h
     ·exact hv v h
     ·simp only [Bq] at h; subst h; exact w1)
    refine ⟨r1,d3,Mq ?_,q2,q3⟩
    unfold Il
    rw [e1,AA,wy,if_pos (by simpa using hlt)]
    exact w3 _ (by rw [AO (show i<9223372036854775807 by omega)]; exact q1)
   ·have hi1:1<=i:=by omega
    refine ⟨vs,d1,Mq ?_,k1,fin vs (by omega) (by omega) hv⟩
    unfold Il
    rw [e1,AA,wy,if_neg (by simpa using hlt)]
 obtain ⟨v,d',e,k,hv⟩:=outer 5 0 (by omega) d [] h rfl (fun v hv=>by cases hv)
 exact ⟨v,d',tD (by unfold cY; exact e),k,hv⟩

theorem oU (d:Iv) (g:Aj) (k:Nat) (h:YG d) (hg:RY g k):∃ e d',UJ d g=some (e,d',g)/\YG d'/\IG e=true/\e.2.2.1<20:=by
 have hvl:=hg.views.len
 have h6:=hg.six
 have ev:∀ (kd nd at_:Int),2<=kd/\kd<=6->1<=nd/\nd<=6->(0<=at_/\at_<20)->IG (kd,nd,at_,0,U,U)=true/\at_<20:=by
  intro kd nd at_ h1 h2 h3
  refine ⟨?_,h3.2⟩
  unfold IG
  simp only [show decide (1<=kd)=true from decide_eq_true (by omega),show decide (kd<=6)=true from decide_eq_true (by omega),show decide (1<=nd)=true from decide_eq_true (by omega),show decide (nd<=6)=true from decide_eq_true (by omega),show decide (0<=at_)=true from decide_eq_true h3.1,if_neg (show ¬ kd=1 by omega)]
  simp [isE]
 have ev1:∀ (nd at_ op:Int) (key val:ByteArray),1<=nd/\nd<=6->(0<=at_/\at_<20)->Xl op key val=true->IG (1,nd,at_,op,key,val)=true/\at_<20:=by
  intro nd at_ op key val h2 h3 h4
  refine ⟨?_,h3.2⟩
  unfold IG
  simp only [show decide (1<=nd)=true from decide_eq_true (by omega),show decide (nd<=6)=true from decide_eq_true (by omega),show decide (0<=at_)=true from decide_eq_true h3.1,if_true,h4]
  rfl
 have L3:∀ (m i:Nat),i+m=6->∀ (d:Iv) (nd at_ op:Int) (key val:ByteArray) (a b c:_),YG d->1<=nd/\nd<=6->∃ nd' d',D1 (i:Int) d g a (1,nd,at_,op,key,val) b c=some ((1,nd',at_,op,key,val),d',g)/\YG d'/\1<=nd'/\nd'<=6:=by
  intro m
  induction m with
  | zero =>
   intro i hi d nd at_ op key val a b c hd hn
   refine ⟨nd,d,Jo ?_,hd,hn⟩
   unfold G9
   rw [if_neg (by simp; omega)]
  | succ m ih =>
   intro i hi d nd at_ op key val a b c hd hn
   have ws:=AO (show i<9223372036854775807 by omega)
   by_cases hs:(Cc g i).2.2.2.2.2.1=true
   ·obtain ⟨o,d1,e1,k1⟩:=E6 4 d hd
    cases o
    ·obtain ⟨nd',d',e2,k2,n2⟩:=ih (i+1) (by omega) d1 ((i+1:Nat):Int) at_ op key val a b c k1 (by omega)
     refine ⟨nd',d',Jo ?_,k2,n2⟩
     unfold G9
     rw [if_pos (by simp; omega),if_pos (by omega),if_pos (by omega),Ab,ACA g i,if_pos hs,e1,AA,if_pos (by rfl),ws]
     exact e2
    ·obtain ⟨nd',d',e2,k2,n2⟩:=ih (i+1) (by omega) d1 nd at_ op key val a b c k1 hn
     refine ⟨nd',d',Jo ?_,k2,n2⟩
     unfold G9
     rw [if_pos (by simp; omega),if_pos (by omega),if_pos (by omega),Ab,ACA g i,if_pos hs,e1,AA,if_neg (by simp),ws]
     exact e2
   ·obtain ⟨nd',d',e2,k2,n2⟩:=ih (i+1) (by omega) d nd at_ op key val a b c hd hn
    refine ⟨nd',d',Jo ?_,k2,n2⟩
    unfold G9
    rw [if_pos (by simp; omega),if_pos (by omega),if_pos (by omega),Ab,ACA g i,if_neg hs,ws]
    exact e2
 have L4:∀ (m i:Nat),i+m=6->∀ (d:Iv) (kd nd at_:Int) (a:_),YG d->1<=nd/\nd<=6->∃ nd' d',D2 (i:Int) d g a (kd,nd,at_,0,U,U)=some ((kd,nd',at_,0,U,U),d',g)/\YG d'/\1<=nd'/\nd'<=6:=by
  intro m
  induction m with
  | zero =>
   intro i hi d kd nd at_ a hd hn
   refine ⟨nd,d,HA ?_,hd,hn⟩
   unfold E2
   rw [if_neg (by simp; omega)]
  | succ m ih =>
   intro i hi d kd nd at_ a hd hn
   have ws:=AO (show i<9223372036854775807 by omega)
   obtain ⟨m1,m2⟩:=hg.mem i (by omega)
   have hep:=m1.ep
   have hz:∀ j,g.2.1.getD j ((0:Int),(0:Int),false,false,false,false,([]:List Int),([]:List Ah),(0:Int),(0:Int),(0:Int),(0:Int),(U,U,(0:Int)),([]:List Int))=Cc g j:=fun j=>rfl
   obtain ⟨nd0,d0,e0,k0,n0⟩:=ih (i+1) (by omega) d kd nd at_ a hd hn
   by_cases h1:(Cc g i).2.1<(g.1.length:Int)
   ·have gv:=hg.views.get (i:=(Cc g i).2.1.toNat) (by omega)
    by_cases h2:((g.1.getD (Cc g i).2.1.toNat ([]:List Int)).getD (0:Int).toNat 0==(Cc g i).1)=true
    ·obtain ⟨o,d1,e1,k1⟩:=E6 3 d hd
     cases o
     ·obtain ⟨nd',d',e2,k2,n2⟩:=ih (i+1) (by omega) d1 kd (Cc g i).1 at_ a k1 (by omega)
      refine ⟨nd',d',HA ?_,k2,n2⟩
      unfold E2
      rw [if_pos (by simp; omega),if_pos (by omega),if_pos (by omega),Ab,hz,if_pos (by simpa using h1),if_pos (by omega),if_pos (by omega),if_pos (by omega),if_pos (by omega),if_pos h2,e1,AA,if_pos (by rfl),ws]
      exact e2
     ·obtain ⟨nd',d',e2,k2,n2⟩:=ih (i+1) (by omega) d1 kd nd at_ a k1 hn
      refine ⟨nd',d',HA ?_,k2,n2⟩
      unfold E2
      rw [if_pos (by simp; omega),if_pos (by omega),if_pos (by omega),Ab,hz,if_pos (by simpa using h1),if_pos (by omega),if_pos (by omega),if_pos (by omega),if_pos (by omega),if_pos h2,e1,AA,if_neg (by simp),ws]
      exact e2
    ·refine ⟨nd0,d0,HA ?_,k0,n0⟩
     unfold E2
     rw [if_pos (by simp; omega),if_pos (by omega),if_pos (by omega),Ab,hz,if_pos (by simpa using h1),if_pos (by omega),if_pos (by omega),if_pos (by omega),if_pos (by omega),if_neg h2,ws]
     exact e0
   ·refine ⟨nd0,d0,HA ?_,k0,n0⟩
    unfold E2
    rw [if_pos (by simp; omega),if_pos (by omega),if_pos (by omega),Ab,hz,if_neg (by simpa using h1),ws]
    exact e0
 have keyOk:∀ key∈([(⟨#[97]⟩:ByteArray),(⟨#[98]⟩:ByteArray),(⟨#[99]⟩:ByteArray)]:List ByteArray),key.size=1:=by
  intro key hk
  simp only [BF,List.mem_nil_iff,or_false] at hk
  rcases hk with rfl | rfl | rfl<;>rfl
 have valOk:∀ v∈([(⟨#[118]⟩:ByteArray),(⟨#[119]⟩:ByteArray),(⟨#[120]⟩:ByteArray),(⟨#[121]⟩:ByteArray)]:List ByteArray),v.size=1:=by
  intro v hk
  simp only [BF,List.mem_nil_iff,or_false] at hk
  rcases hk with rfl | rfl | rfl | rfl<;>rfl
 have J2:∀ (d:Iv) (a:_) (kd nd at_:Int),YG d->1<=kd/\kd<=6->1<=nd/\nd<=6->(0<=at_/\at_<20)->∃ e d',G8 d g a (kd,nd,at_,0,U,U)=some (e,d',g)/\YG d'/\IG e=true/\e.2.2.1<20:=by
  intro d a kd nd at_ hd hk hn ha
  by_cases h1:kd=1
  ·subst h1
   obtain ⟨op,d1,e1,k1,mem1⟩:=RW [1,1,2] (by simp) d hd
   obtain ⟨key,d2,e2,k2,mem2⟩:=HH [(⟨#[97]⟩:ByteArray),(⟨#[98]⟩:ByteArray),(⟨#[99]⟩:ByteArray)] (by simp) d1 k1
   have hkey:=keyOk key mem2
   by_cases ho:op=1
   ·obtain ⟨val,d3,e3,k3,mem3⟩:=HH [(⟨#[118]⟩:ByteArray),(⟨#[119]⟩:ByteArray),(⟨#[120]⟩:ByteArray),(⟨#[121]⟩:ByteArray)] (by simp) d2 k2
    have hval:=valOk val mem3
    obtain ⟨nd',d',e4,k4,n4⟩:=L3 6 0 (by omega) d3 nd at_ op key val a _ _ k3 hn
    refine ⟨_,d',Jp ?_,k4,ev1 nd' at_ op key val n4 ha (by unfold Xl; simp [ho,hkey,hval])⟩
    unfold G_
    rw [if_pos (by simp),e1,AA,e2,AA,if_pos (by simpa using ho),e3,AA]
    exact e4
   ·have ho2:op=2:=by simp at mem1; omega
    obtain ⟨nd',d',e4,k4,n4⟩:=L3 6 0 (by omega) d2 nd at_ op key U a _ _ k2 hn
    refine ⟨_,d',Jp ?_,k4,ev1 nd' at_ op key U n4 ha (by unfold Xl; simp [ho2,hkey,isE])⟩
    unfold G_
    rw [if_pos (by simp),e1,AA,e2,AA,if_neg (by simpa using ho)]
    exact e4
  ·by_cases h5:kd=5
   ·obtain ⟨nd',d',e4,k4,n4⟩:=L4 6 0 (by omega) d kd nd at_ a hd hn
    refine ⟨_,d',Jp ?_,k4,ev kd nd' at_ (by omega) n4 ha⟩
    unfold G_
    rw [if_neg (by simpa using h1),if_pos (by simpa using h5)]
    exact e4
   ·refine ⟨_,d,Jp ?_,hd,ev kd nd at_ (by omega) hn ha⟩
    unfold G_
    rw [if_neg (by simpa using h1),if_neg (by simpa using h5)]
 have J1:∀ (d:Iv) (a:_) (kd nd at_:Int),YG d->1<=kd/\kd<=6->1<=nd/\nd<=6->(0<=at_/\at_<20)->∃ e d',BS d g a (kd,nd,at_,0,U,U)=some (e,d',g)/\YG d'/\IG e=true/\e.2.2.1<20:=by
  intro d a kd nd at_ hd hk hn ha
  by_cases h2:kd=2
  ·obtain ⟨o,d1,e1,k1⟩:=E6 2 d hd
   cases o
   ·obtain ⟨e,d',e2,k2,v2⟩:=J2 d1 a kd nd at_ k1 hk hn ha
    refine ⟨e,d',Ol ?_,k2,v2⟩
    unfold Jm
    rw [if_pos (by simpa using h2),e1,AA,if_neg (by simp)]
    exact e2
   ·obtain ⟨e,d',e2,k2,v2⟩:=J2 d1 a kd nd 0 k1 hk hn (by omega)
    refine ⟨e,d',Ol ?_,k2,v2⟩
    unfold Jm
    rw [if_pos (by simpa using h2),e1,AA,if_pos (by rfl)]
    exact e2
  ·obtain ⟨e,d',e2,k2,v2⟩:=J2 d a kd nd at_ hd hk hn ha
   refine ⟨e,d',Ol ?_,k2,v2⟩
   unfold Jm
   rw [if_neg (by simpa using h2)]
   exact e2
 have six:∀ (d:Iv) (a:_) (kd nd at_:Int),YG d->1<=kd/\kd<=6->1<=nd/\nd<=6->(0<=at_/\at_<20)->∃ e d',(if (kd==6)=true then ((Cy 4 d).bind fun y5=>(if (!y5.1)=true then (BS y5.2 g a (1,nd,at_,0,U,U)) else (BS y5.2 g a (kd,nd,at_,0,U,U)))) else (BS d g a (kd,nd,at_,0,U,U)))=some (e,d',g)/\YG d'/\IG e=true/\e.2.2.1<20:=by
  intro d a kd nd at_ hd hk hn ha
  by_cases h2:kd=6
  ·obtain ⟨o,d1,e1,k1⟩:=E6 4 d hd
   cases o
   ·obtain ⟨e,d',e2,k2,v2⟩:=J1 d1 a 1 nd at_ k1 (by omega) hn ha
    refine ⟨e,d',?_,k2,v2⟩
    rw [if_pos (by simpa using h2),e1,AA,if_pos (by rfl)]
    exact e2
   ·obtain ⟨e,d',e2,k2,v2⟩:=J1 d1 a kd nd at_ k1 hk hn ha
    refine ⟨e,d',?_,k2,v2⟩
    rw [if_pos (by simpa using h2),e1,AA,if_neg (by simp)]
    exact e2
  ·obtain ⟨e,d',e2,k2,v2⟩:=J1 d a kd nd at_ hd hk hn ha
   refine ⟨e,d',?_,k2,v2⟩
   rw [if_neg (by simpa using h2)]
   exact e2
 obtain ⟨kd,d1,e1,k1,mem1⟩:=RW [1,1,1,2,2,2,2,2,2,2,2,3,4,5,6] (by simp) d h
 obtain ⟨nd,d2,e2,k2,n0,n1⟩:=Be 4 d1 k1
 obtain ⟨at_,d3,e3,k3,a0,a1⟩:=Be 20 d2 k2
 have a0:0<=at_/\at_<20:=⟨a0,a1 (by omega)⟩
 have n1:=n1 (by omega)
 have wn:IntKind.i64.wrap (1+nd)=1+nd:=Aa (by omega)
 have hkd:1<=kd/\kd<=6:=by
  simp only [BF,List.mem_nil_iff,or_false] at mem1
  omega
 have fin:∃ e d',Ok d3 g ((0:Int),(0:Int),(0:Int),(0:Int),U,U) (kd,1+nd,at_,0,U,U)=some (e,d',g)/\YG d'/\IG e=true/\e.2.2.1<20:=by
  by_cases hf:((g.2.2.1.length:Int)==0)=true
  ·cases hin:(decide (2<=kd)&&decide (kd<=4)) with
   | true =>
    obtain ⟨e,d',e4,k4,v4⟩:=J1 d3 ((0:Int),(0:Int),(0:Int),(0:Int),U,U) 1 (1+nd) at_ k3 (by omega) (by omega) a0
    refine ⟨e,d',Om ?_,k4,v4⟩
    unfold Jn
    rw [if_pos hf,BX,AA,if_pos hin,if_neg (show ¬ ((1:Int)==6)=true by decide)]
    exact e4
   | false =>
    obtain ⟨e,d',e4,k4,v4⟩:=six d3 ((0:Int),(0:Int),(0:Int),(0:Int),U,U) kd (1+nd) at_ k3 hkd (by omega) a0
    refine ⟨e,d',Om ?_,k4,v4⟩
    unfold Jn
    rw [if_pos hf,BX,AA,if_neg (by rw [hin]; simp)]
    exact e4
  ·obtain ⟨e,d',e4,k4,v4⟩:=six d3 ((0:Int),(0:Int),(0:Int),(0:Int),U,U) kd (1+nd) at_ k3 hkd (by omega) a0
   refine ⟨e,d',Om ?_,k4,v4⟩
   unfold Jn
   rw [if_neg hf]
   exact e4
 obtain ⟨e,d',e4,k4,v4⟩:=fin
 refine ⟨e,d',wO ?_,k4,v4⟩
 unfold fq
 rw [e1,AA,e2,AA,e3,AA,wn]
 exact e4

theorem oV (x:List Int) (d:Iv) (hx:x.length<=1048576) (h:YG d):∃ v es d',UD x d=some ((v,es),d')/\YG d'/\VL v/\es.length<=69/\∀ e∈es,IG e=true/\e.2.2.1<20:=by
 obtain ⟨v,d1,e1,k1,hv⟩:=lR d h
 have L:∀ (n:Nat),n<=69->∀ a b,∃ es d',Ez (n:Int) ((0:Nat):Int) d1 a b [] v (Ar v)=some ((v,es),d')/\YG d'/\es.length<=69/\∀ e∈es,IG e=true/\e.2.2.1<20:=by
  intro n hn a b
  refine Jy (n:=n) (P:=fun i=>∀ (d:Iv) (es:List Ax) (g:Aj),YG d->RY g i->es.length=i->(∀ e∈es,IG e=true/\e.2.2.1<20)->∃ es' d',Ez (n:Int) (i:Int) d a b es v g=some ((v,es'),d')/\YG d'/\es'.length<=69/\∀ e∈es',IG e=true/\e.2.2.1<20) (fun d es g hd hg hl he=>?_) (fun i hi ih d es g hd hg hl he=>?_) 0 (by omega) d1 [] (Ar v) k1 (TV hv) rfl (fun e he=>by cases he)
  ·refine ⟨es,d,W9 ?_,hd,by omega,he⟩
   unfold OV
   rw [if_neg (by simp)]
  ·obtain ⟨e,d2,e2,k2,ke⟩:=oU d g i hd hg
   obtain ⟨q1,q2,q3⟩:=dL (i:Int) e g i hg (by omega) ke.1
   obtain ⟨es',d3,e3,k3⟩:=ih d2 (es++[e]) (r8 g (i:Int) e).2 k2 q2 (by simp; omega) (fun y hy=>by
    rcases CV.1 hy with hy | hy
    ·exact he y hy
    ·rw [Bq.1 hy]; exact ke)
   refine ⟨es',d3,W9 ?_,k3⟩
   unfold OV
   rw [if_pos (by simpa using hi),e2,AA]
   dsimp only
   rw [q1,AA,if_pos (by simp; omega),AO (by omega)]
   exact e3
 have wq:IntKind.i64.wrap (Int.tdiv (x.length:Int) 4)=((x.length / 4:Nat):Int):=by
  rw [Int.tdiv_eq_ediv_of_nonneg (by omega),Aa (by omega)]
  omega
 have wn:IntKind.i64.wrap (20+((x.length / 4:Nat):Int))=((20+x.length / 4:Nat):Int):=by rw [Aa (by omega)]; omega
 by_cases hn:20+x.length / 4<=69
 ·obtain ⟨es,d',e,k,k2⟩:=L (20+x.length / 4) hn [] []
  refine ⟨v,es,d',fU ?_,k,hv,k2⟩
  unfold Uu
  rw [e1,AA,O_ hv,AA,if_neg (by omega),wq,wn,if_neg (by simp; omega)]
  exact e
 ·obtain ⟨es,d',e,k,k2⟩:=L 69 (by omega) [] []
  refine ⟨v,es,d',fU ?_,k,hv,k2⟩
  unfold Uu
  rw [e1,AA,O_ hv,AA,if_neg (by omega),wq,wn,if_pos (by simp; omega)]
  exact e

def uG (views:List (List Int)) (e:Int):Int:=(views.getD (e-1).toNat []).getD 0 0
def RZ (l:List Ah) (b:Int):Prop:=∀ y∈l,y.2.2<=b
theorem RZ.mono {l:List Ah} {a b:Int} (h:RZ l a) (hab:a<=b):RZ l b:=fun y hy=>Int.le_trans (h y hy) hab
theorem rK {b:Int}:RZ [] b:=fun y hy=>by cases hy
theorem ABU {x:List Ah} {a b:Ah} (h:b∈D4 x a):b=a\/b∈x:=by
 unfold D4 at h
 split at h
 ·exact .inr h
 ·split at h
  ·split at h
   ·exact ABQ h
   ·exact .inr h
  ·exact .inr h
theorem RZ.put {l:List Ah} {a:Ah} {b:Int} (h:RZ l b) (ha:a.2.2<=b):RZ (D4 l a) b:=fun y hy=>by
 rcases ABU hy with e | e
 ·rw [e]; exact ha
 ·exact h y e
structure V1 (views:List (List Int)) (m:AI):Prop where
 lead:m.2.2.2.2.1=true->m.2.1<=(views.length:Int)/\uG views m.2.1=m.1
 ver:RZ m.2.2.2.2.2.2.2.1 (1000*m.2.1+900)
 own:m.2.2.2.2.1=true->m.2.2.2.1=true->RZ m.2.2.2.2.2.2.2.1 (1000*m.2.1+m.2.2.2.2.2.2.2.2.1)
 task:m.2.2.2.2.2.2.2.2.2.1≠0->m.2.2.2.2.2.2.2.2.2.2.2.2.1.2.2<=1000*m.2.1+m.2.2.2.2.2.2.2.2.1
 view:m.2.2.2.1=true->m.2.1<=(views.length:Int)/\(views.getD (m.2.1-1).toNat []).contains m.1=true
structure V2 (views:List (List Int)) (x:Bv):Prop where
 inst:x.1=3->x.2.2.2.2.1=0
 old:x.1=2\/x.1=3->RZ x.2.2.2.2.2 (1000*x.2.2.2.1)
 store:x.1=5->x.2.2.1≠uG views x.2.2.2.1/\RZ x.2.2.2.2.2 (1000*x.2.2.2.1+900)
theorem V2.plain {views:List (List Int)} {x:Bv} (h2:x.1≠2) (h3:x.1≠3) (h5:x.1≠5):V2 views x:=⟨fun h=>absurd h h3,fun h=>by omega,fun h=>absurd h h5⟩
theorem V1.finish {views:List (List Int)} {m:AI} (h:V1 views m) (hc:m.2.2.2.2.2.2.2.2.1<=900) (h0:m.2.2.2.2.2.2.2.2.2.1≠0):V1 views (Ee m).2:=by
 have ht:=h.task h0
 unfold Ee
 split
 ·exact ⟨h.lead,h.ver.put (by omega),fun h1 h2=>(h.own h1 h2).put ht,fun h0=>absurd rfl h0,h.view⟩
 ·exact ⟨h.lead,h.ver,h.own,fun h0=>absurd rfl h0,h.view⟩
theorem V1.bare {views:List (List Int)} {m:AI} (h:V1 views m) {e:Int} (he:m.2.1<=e):V1 views (Z7 m e) :=
 ⟨fun h=>(by cases h),h.ver.mono (by show _<=1000*e+900; omega),fun h=>(by cases h),fun h=>absurd rfl h,fun h=>(by cases h)⟩
theorem V1.inst {views:List (List Int)} {i e:Int} {its:List Ah} (h:RZ its (1000*e)) (hv:e<=(views.length:Int)/\(views.getD (e-1).toNat []).contains i=true):V1 views (i,e,false,true,false,false,([]:List Int),its,(0:Int),(0:Int),(0:Int),(0:Int),(U,U,(0:Int)),([]:List Int)) :=
 ⟨fun h=>(by cases h),h.mono (by show _<=1000*e+900; omega),fun h=>(by cases h),fun h=>absurd rfl h,fun _=>hv⟩
theorem AEw {views:List (List Int)} {i e:Int} (hv:VL views) (h1:1<=e) (he:e<=(views.length:Int)) (hf:uG views e=i):(views.getD (e-1).toNat []).contains i=true:=by
 have g:=hv.get (i:=(e-1).toNat) (by omega)
 rw [<- hf,List.contains_iff_mem,uG,AW (show 0<(views.getD (e-1).toNat []).length by omega)]
 exact BC _
theorem V1.has {views:List (List Int)} {m:AI} {view:List Int} {its:List Ah} (hv:VL views) (h1:1<=m.2.1) (hl:m.2.2.2.2.1=true) (h:V1 views m) (hc:0<=m.2.2.2.2.2.2.2.2.1) (hi:RZ its (1000*m.2.1)):V1 views (Z6 m view its) :=
 ⟨h.lead,hi.mono (by show _<=1000*m.2.1+900; omega),fun _ _=>hi.mono (by show _<=1000*m.2.1+m.2.2.2.2.2.2.2.2.1; omega),h.task,fun _=>⟨(h.lead hl).1,AEw hv h1 (h.lead hl).1 (h.lead hl).2⟩⟩
theorem V2.insts {views:List (List Int)} {i e:Int} {l:List Int} {its:List Ah} (h:RZ its (1000*e)):∀ y∈l.map (fun v=>((3:Int),i,v,e,(0:Int),its)),V2 views y:=by
 intro y hy
 obtain ⟨v,_,rfl⟩:=List.mem_map.1 hy
 exact ⟨fun _=>rfl,fun _=>h,fun h5=>absurd h5 (by decide:(3:Int)≠5)⟩
theorem V2.reply {views:List (List Int)} {m:AI} {x:Bv} {k:Int} (hk:k=4\/k=6\/k=8):∀ y∈FC m x k,V2 views y:=by
 intro y hy
 simp only [FC,Bq] at hy
 subst hy
 exact V2.plain (by show k≠2; omega) (by show k≠3; omega) (by show k≠5; omega)
theorem ACm {views:List (List Int)}:∀ y∈([]:List Bv),V2 views y:=fun y hy=>by cases hy
def V4 (views:List (List Int)) (n:AI) (told:List Bv):Prop:=V1 views n/\∀ y∈told,V2 views y
theorem V4.same {views:List (List Int)} {m:AI} (h:V1 views m):V4 views m []:=⟨h,ACm⟩
theorem AEx {views:List (List Int)} {m:AI} (h:V1 views m) (hc:m.2.2.2.2.2.2.2.2.1<=900) (h0:m.2.2.2.2.2.2.2.2.2.1≠0) (f:Int):V4 views (E7 m f).1 (E7 m f).2.1:=by
 have hl:V1 views (zA m f):=⟨h.lead,h.ver,h.own,h.task,h.view⟩
 unfold E7
 split
 ·exact ⟨hl.finish hc h0,ACm⟩
 ·exact .same hl
theorem AHe {views:List (List Int)} {m:AI} {x:Bv} (hv:VL views) (hlen:m.2.1<=(views.length:Int)) (hm:LQ m) (h:V1 views m) (hx:V2 views x) (hxo:XOk x) (ht:x.2.2.1=m.1) (he:x.2.2.2.1=m.2.1):V4 views (bC m (views.getD (m.2.1-1).toNat []) x).1 (bC m (views.getD (m.2.1-1).toNat []) x).2.1:=by
 have hcnt:=hm.count
 unfold bC
 by_cases k2:x.1=2
 ·rw [if_pos k2]
  split
  ·rename_i hc
   simp only [AE] at hc
   have:=hx.old (.inl k2)
   rw [he] at this
   exact ⟨V1.has hv hm.ep.1 hc.1 h hcnt.1 this,V2.insts this⟩
  ·exact .same h
 rw [if_neg k2]
 by_cases k3:x.1=3
 ·rw [if_pos k3]
  split
  ·exact .same h
  ·rename_i hc
   split
   ·exact .same h
   ·split
    ·exact ⟨h,V2.reply (.inl rfl)⟩
    ·have:=hx.old (.inr k3)
     rw [he] at this
     refine ⟨V1.inst this ⟨hlen,?_⟩,V2.reply (.inl rfl)⟩
     cases q:(views.getD (m.2.1-1).toNat []).contains m.1 with
     | true=>rfl
     | false=>rw [q] at hc; exact absurd rfl hc
 rw [if_neg k3]
 by_cases k4:x.1=4
 ·rw [if_pos k4]
  split
  ·exact .same ⟨h.lead,h.ver,h.own,h.task,h.view⟩
  ·exact .same h
 rw [if_neg k4]
 by_cases k5:x.1=5
 ·rw [if_pos k5]
  split
  ·obtain ⟨s1,s2⟩:=hx.store k5
   have hlen:x.2.2.2.2.2.length=1:=by
    have:=hxo.shape
    rw [if_neg (by omega),if_pos k5] at this
    exact this
   have hit:(x.2.2.2.2.2.getD 0 (U,U,(0:Int))).2.2<=1000*m.2.1+900:=by
    rw [AW (show 0<x.2.2.2.2.2.length by omega),<- he]
    exact s2 _ (BC _)
   refine ⟨⟨h.lead,h.ver.put hit,fun h1 h2=>?_,h.task,h.view⟩,V2.reply (.inr (.inl rfl))⟩
   exact absurd (h.lead h1).2 (by rw [<- he,<- ht]; exact Ne.symm s1)
  ·exact .same h
 rw [if_neg k5]
 by_cases k7:x.1=7
 ·rw [if_pos k7]
  split
  ·exact ⟨h,V2.reply (.inr (.inr rfl))⟩
  ·exact .same h
 rw [if_neg k7]
 by_cases hc:(x.1=6\/x.1=8)/\m.2.2.2.2.2.2.2.2.2.1=(if x.1=8 then 2 else 1)/\m.2.2.2.2.2.2.2.2.2.2.2.1=x.2.2.2.2.1
 ·rw [if_pos hc]
  exact AEx h hcnt.2 (by have:=hc.2.1; split at this<;>omega) _
 ·rw [if_neg hc]
  exact .same h
theorem AHD {views:List (List Int)} {m:AI} {x:Bv} (hv:VL views) (hm:LQ m) (h:V1 views m) (hx:V2 views x):V4 views (EB m views x).1 (EB m views x).2.1:=by
 unfold EB
 split
 ·rename_i hc
  simp only [AE,decide_eq_true_eq,beq_iff_eq] at hc
  obtain ⟨⟨⟨hmo,h1⟩,h2⟩,h3⟩:=hc
  split
  ·rename_i he
   exact AHe hv (by omega) hm h hx (hU.1 hmo) h1 he
  ·split
   ·rename_i hs
    simp only [AE,beq_iff_eq] at hs
    refine ⟨h.bare h2,fun y hy=>?_⟩
    simp only [Bq] at hy
    subst hy
    refine ⟨fun h3=>absurd h3 (by decide:(2:Int)≠3),fun _=>h.ver.mono ?_,fun h5=>absurd h5 (by decide:(2:Int)≠5)⟩
    show _<=1000*x.2.2.2.1
    omega
   ·split
    ·rename_i hs
     simp only [AE,beq_iff_eq] at hs
     exact ⟨V1.inst (hx.old (.inr hs.1.1)) ⟨h3,hs.1.2⟩,V2.reply (.inl rfl)⟩
    ·exact .same h
 ·exact .same h
theorem AGL {view:List Int} {i v:Int} (h:v∈Ck view i):v≠i:=by
 have:=(List.mem_filter.1 h).2
 simpa using this
theorem AGM {views:List (List Int)} {m:AI} {op call:Int} {key val:ByteArray} (hm:LQ m) (h:V1 views m) (hb:(DY m views op call key val).2.2.2=true) :
  V4 views (DY m views op call key val).1 (DY m views op call key val).2.1:=by
 have hcnt:=hm.count
 unfold DY at hb ⊢
 split at hb
 ·rename_i hmay
  rw [if_pos hmay]
  obtain ⟨h1,h2,h3,h4,h5,h6,h7,h8,h9,h10⟩:=rI hmay
  split at hb
  ·cases hb
  ·rename_i hn
   rw [if_neg hn]
   have ht:V1 views (Jv m (views.getD (m.2.1-1).toNat []) op call key val):=by
    refine ⟨h.lead,h.ver,fun a b=>(h.own a b).mono ?_,fun _=>?_,h.view⟩
    ·show _<=1000*m.2.1+(m.2.2.2.2.2.2.2.2.1+1); omega
    ·show 1000*m.2.1+(m.2.2.2.2.2.2.2.2.1+1)<=1000*m.2.1+(m.2.2.2.2.2.2.2.2.1+1); omega
   unfold VD
   split
   ·exact ⟨ht.finish (by show m.2.2.2.2.2.2.2.2.1+1<=900; omega) (by show op≠0; omega),ACm⟩
   ·refine ⟨ht,fun y hy=>?_⟩
    obtain ⟨v,hv,rfl⟩:=List.mem_map.1 hy
    have hne:=AGL hv
    by_cases ho:op=1
    ·rw [if_pos ho,if_pos ho]
     refine ⟨fun h3=>absurd h3 (by decide:(5:Int)≠3),fun h=>absurd h (by decide:¬ ((5:Int)=2\/(5:Int)=3)),fun _=>⟨fun e=>hne (e.trans ?_),fun z hz=>?_⟩⟩
     ·exact h10
     ·simp only [Bq] at hz
      subst hz
      show 1000*m.2.1+(m.2.2.2.2.2.2.2.2.1+1)<=1000*m.2.1+900
      omega
    ·rw [if_neg ho,if_neg ho]
     exact V2.plain (by decide:(7:Int)≠2) (by decide:(7:Int)≠3) (by decide:(7:Int)≠5)
 ·cases hb
theorem AGN {views:List (List Int)} {m:AI} {e:Int} (hvo:VL views) (h:V1 views m) (hb:(Fa m views e).2.2=true):V4 views (Fa m views e).1 (Fa m views e).2.1:=by
 unfold Fa at hb ⊢
 split at hb
 ·rename_i hc
  rw [if_pos hc]
  have hv:RZ m.2.2.2.2.2.2.2.1 (1000*e):=h.ver.mono (by omega)
  have hn:V1 views (NK m e):=⟨fun _=>⟨hc.2.1,hc.2.2.2⟩,hv.mono (by show _<=1000*e+900; omega),fun _ h=>(by cases h),fun h=>absurd rfl h,fun h=>(by cases h)⟩
  split
  ·exact ⟨V1.has hvo (by show 1<=e; omega) rfl hn (by show (0:Int)<=0; omega) hv,V2.insts hv⟩
  ·refine ⟨hn,fun y hy=>?_⟩
   obtain ⟨v,hv,rfl⟩:=List.mem_map.1 hy
   exact V2.plain (by decide:(1:Int)≠2) (by decide:(1:Int)≠3) (by decide:(1:Int)≠5)
 ·cases hb
theorem V1.fall {views:List (List Int)} {m:AI}:V1 views (dJ m):=⟨fun h=>(by cases h),rK,fun h=>(by cases h),fun h=>absurd rfl h,fun h=>(by cases h)⟩
theorem V1.first {views:List (List Int)} {i:Int} (hv:VL views):V1 views (IE i views):=by
 have:=hv.len
 refine ⟨fun h=>⟨by show (1:Int)<=_; omega,?_⟩,rK,fun _ _=>rK,fun h=>absurd rfl h,fun h=>⟨by show (1:Int)<=_; omega,h⟩⟩
 exact beq_iff_eq.1 h
structure V3 (g:Aj):Prop where
 mem:∀ i,i<6->V1 g.1 (Cc g i)
 fly:∀ x∈g.2.2.1,V2 g.1 x
 calls:∀ c∈g.2.2.2,c.2.2.2.2.1=-1\/0<=c.2.2.2.2.1
theorem ACB {at_:Int} (ha:0<=at_) (s:DU) {cs:List O6} (h:∀ c∈cs,c.2.2.2.2.1=-1\/0<=c.2.2.2.2.1):∀ c∈Iw at_ cs s,c.2.2.2.2.1=-1\/0<=c.2.2.2.2.1:=by
 unfold Iw
 split
 ·exact h
 ·intro c hc
  rcases List.mem_or_eq_of_mem_set hc with e | e
  ·exact h c e
  ·rw [e]; exact .inr ha
theorem r9 {at_:Int} (ha:0<=at_):∀ (said:List DU) {cs:List O6},(∀ c∈cs,c.2.2.2.2.1=-1\/0<=c.2.2.2.2.1)->∀ c∈said.foldl (Iw at_) cs,c.2.2.2.2.1=-1\/0<=c.2.2.2.2.1
 | [],_,h=>h
 | s::l,_,h=>r9 ha l (ACB ha s h)
theorem V3.member {g:Aj} (h:V3 g) (h6:g.2.1.length=6) {n:AI} {told:List Bv} {said:List DU} {at_:Int} {i:Nat} (ha:0<=at_) (hi:i<6) (hid:n.1=(i:Int)+1) (hn:V4 g.1 n told):V3 (Fc g n told said at_):=by
 refine ⟨fun j hj=>?_,fun x hx=>?_,r9 ha said h.calls⟩
 ·rw [xH h6 hj hid hi]
  split
  ·exact hn.1
  ·exact h.mem j hj
 ·rcases CV.1 hx with h1 | h1
  ·exact h.fly x h1
  ·exact hn.2 x h1
theorem V3.less {g:Aj} (h:V3 g) (i:Nat):V3 (O8 g i):=⟨h.mem,fun x hx=>by
 rcases CV.1 hx with h1 | h1
 ·exact h.fly x (List.mem_of_mem_take h1)
 ·exact h.fly x (List.mem_of_mem_drop h1),h.calls⟩
theorem V3.call {g:Aj} (h:V3 g) (at_:Int) (e:Ax):V3 (O7 g at_ e):=⟨h.mem,h.fly,fun c hc=>by
 rcases CV.1 hc with h1 | h1
 ·exact h.calls c h1
 ·simp only [Bq] at h1
  rw [h1]; exact .inl rfl⟩
theorem V3.adopt {g:Aj} {k:Nat} (h:V3 g) (hg:RY g k) {at_ node:Int} (ha:0<=at_) (hn:1<=node/\node<=6):∀ (n:Nat) (e:Int),V3 (IF g at_ (Cc g (node-1).toNat) node n e).2
 | 0,_=>h
 | n+1,e=>by
  unfold IF
  split
  ·exact V3.adopt h hg ha hn n (e+1)
  ·split
   ·rename_i hb
    obtain ⟨m1,m2⟩:=hg.mem (node-1).toNat (by omega)
    have hao:=aC (e:=e) m1 hg.views hb
    exact h.member hg.six (i:=(node-1).toNat) ha (by omega) (by rw [hao.2.1,m2]) (AGN hg.views (h.mem _ (by omega)) hb)
   ·exact h
theorem V3.event {g:Aj} {k:Nat} (h:V3 g) (hg:RY g k) {at_:Int} (ha:0<=at_) {e:Ax} (he:IG e=true):V3 (r8 g at_ e).2:=by
 have hn:=hY he
 unfold r8
 split
 ·unfold LU
  split
  ·rename_i hb
   obtain ⟨m1,m2⟩:=hg.mem (e.2.1-1).toNat (by omega)
   have hbo:=aB (op:=e.2.2.2.1) (call:=(g.2.2.2.length:Int)) (key:=e.2.2.2.2.1) (val:=e.2.2.2.2.2) m1 hg.views
   exact (h.call at_ e).member (g:=O7 g at_ e) hg.six (i:=(e.2.1-1).toNat) ha (by omega) (by rw [hbo.id hb,m2]) (AGM m1 (h.mem _ (by omega)) hb)
  ·exact h.call at_ e
 ·split
  ·exact h.adopt hg ha (by omega) _ _
  ·split
   ·obtain ⟨m1,m2⟩:=hg.mem (e.2.1-1).toNat (by omega)
    exact h.member hg.six (i:=(e.2.1-1).toNat) ha (by omega) m2 ⟨V1.fall,ACm⟩
   ·unfold jA
    split
    ·exact h
    ·rename_i hne
     have hl:0<g.2.2.1.length:=by
      cases hq:g.2.2.1 with
      | nil=>exact absurd hq hne
      | cons a l=>simp
     have hlt:(e.2.2.1 % (g.2.2.1.length:Int)).toNat<g.2.2.1.length:=by
      have h1:=Int.emod_lt_of_pos e.2.2.1 (show (0:Int)<(g.2.2.1.length:Int) by omega)
      have h2:=Int.emod_nonneg e.2.2.1 (show (g.2.2.1.length:Int)≠0 by omega)
      omega
     have hmem:g.2.2.1.getD (e.2.2.1 % (g.2.2.1.length:Int)).toNat D5∈g.2.2.1:=by
      rw [AW hlt]
      exact BC _
     split
     ·refine ⟨h.mem,fun x hx=>?_,h.calls⟩
      rcases CV.1 hx with h1 | h1
      ·exact h.fly x h1
      ·simp only [Bq] at h1
       rw [h1]
       exact h.fly _ hmem
     ·split
      ·exact h.less _
      ·have hto:=(hg.fly _ hmem).to
       generalize hx:g.2.2.1.getD (e.2.2.1 % (g.2.2.1.length:Int)).toNat D5=x at *
       obtain ⟨m1,m2⟩:=hg.mem (x.2.2.1-1).toNat (by omega)
       exact (h.less _).member (g:=O8 g (e.2.2.1 % (g.2.2.1.length:Int)).toNat) hg.six (i:=(x.2.2.1-1).toNat) ha (by omega) (by rw [(aA (x:=x) m1 hg.views).id,m2]) (AHD hg.views m1 (h.mem _ (by omega)) (h.fly _ hmem))
theorem V3.new {views:List (List Int)} (hv:VL views):V3 (Ar views):=by
 refine ⟨fun i hi=>?_,(fun x hx=>by cases hx),fun x hx=>by cases hx⟩
 have h5:i=0\/i=1\/i=2\/i=3\/i=4\/i=5:=by omega
 rcases h5 with rfl | rfl | rfl | rfl | rfl | rfl<;>exact V1.first hv
theorem V3.run:∀ (es:List Ax) (n:Nat) (g:Aj) (cs:List Int),RY g n->V3 g->n+es.length<=70->(∀ e∈es,IG e=true)->V3 (Fv n es g cs).1
 | [],n,g,cs,_,h,_,_=>h
 | e::es,n,g,cs,hg,h,hn,he=>by
  simp only [List.length_cons] at hn
  obtain ⟨h2,_⟩:=hg.event (at_:=(n:Int)) (he e (by simp))
  exact V3.run es (n+1) _ _ h2 (h.event hg (by omega) (he e (by simp))) (by omega) (fun x hx=>he x (by simp [hx]))

theorem oW (a b:Int):UL a b=some (decide (a<b)):=w_ (by
 have h:∀ a,L7 a=some false:=fun a=>tr (by unfold dI; simp)
 unfold gQ
 rw [h,AA,if_neg (by simp)])
def AAW (l:List Int) (j:Nat):List Int:=(l.set (j+1) (l.getD j 0)).set j (l.getD (j+1) 0)
def bub:Nat->List Int->List Int
 | 0,l=>l
 | j+1,l=>if l.getD (j+1) 0<l.getD j 0 then bub j (AAW l j) else l
def srt:Nat->Nat->List Int->List Int
 | 0,_,l=>l
 | k+1,i,l=>srt k (i+1) (bub i l)
theorem oX (l:List Int) (j:Nat):(AAW l j).length=l.length:=by simp [AAW]
theorem uH:∀ (j:Nat) (l:List Int),(bub j l).length=l.length
 | 0,l=>rfl
 | j+1,l=>by
  unfold bub
  split
  ·rw [uH j,oX]
  ·rfl
theorem ADg {l:List Int} {j:Nat} (h:j+1<l.length):(AAW l j).Perm l:=by
 obtain ⟨p,a,b,q,rfl,rfl⟩:∃ p a b q,l=p++a::b::q/\p.length=j :=
  ⟨l.take j,l[j],l[j+1],l.drop (j+2),by rw [<- List.drop_eq_getElem_cons h,<- List.drop_eq_getElem_cons (show j<l.length by omega),List.take_append_drop],by rw [List.length_take]; omega⟩
 have e:AAW (p++a::b::q) p.length=p++b::a::q:=by
  unfold AAW
  have e1:(p++a::b::q).getD p.length 0=a:=by simp [List.getD]
  have e2:(p++a::b::q).getD (p.length+1) 0=b:=by simp [List.getD]
  rw [e1,e2,List.set_append_right _ _ (by omega),List.set_append_right _ _ (by omega)]
  simp
 rw [e]
 exact List.Perm.append_left p (List.Perm.swap a b q)
theorem ABV:∀ (j:Nat) (l:List Int),j<l.length->(bub j l).Perm l
 | 0,l,_=>List.Perm.refl l
 | j+1,l,h=>by
  unfold bub
  split
  ·exact (ABV j _ (by rw [oX]; omega)).trans (ADg h)
  ·exact List.Perm.refl l
theorem xI:∀ (k i:Nat) (l:List Int),i+k=l.length->(srt k i l).Perm l
 | 0,_,l,_=>List.Perm.refl l
 | k+1,i,l,h=>(xI k (i+1) _ (by rw [uH]; omega)).trans (ABV i l (by omega))
theorem ACn {l:List Int} {j:Nat} (h:j+1<l.length) (a:Nat):(AAW l j).getD a 0=if a=j then l.getD (j+1) 0 else if a=j+1 then l.getD j 0 else l.getD a 0:=by
 unfold AAW
 simp only [List.getD_eq_getElem?_getD,BK,List.length_set]
 by_cases h1:a=j
 ·subst h1
  rw [if_pos rfl,if_pos (by omega),if_pos rfl]
  simp
 ·rw [if_neg (fun e=>h1 e.symm),if_neg h1]
  by_cases h2:a=j+1
  ·subst h2
   rw [if_pos rfl,if_pos (by omega),if_pos rfl]
   simp
  ·rw [if_neg (fun e=>h2 e.symm),if_neg h2]
def AHE (i:Nat) (l:List Int):Prop:=∀ a b,a<b->b<=i->l.getD a 0<=l.getD b 0
theorem AEy (i:Nat):∀ (j:Nat) (l:List Int),j<=i->i<l.length->(∀ a b,a<b->b<=i->b≠j->l.getD a 0<=l.getD b 0)->AHE i (bub j l)
 | 0,l,_,_,h=>fun a b h1 h2=>h a b h1 h2 (by omega)
 | j+1,l,hj,hi,h=>by
  unfold bub
  split
  ·rename_i hlt
   refine AEy i j _ (by omega) (by rw [oX]; exact hi) fun a b h1 h2 h3=>?_
   rw [ACn (by omega),ACn (by omega)]
   rw [if_neg h3]
   by_cases hb:b=j+1
   ·subst hb
    rw [if_pos rfl]
    by_cases ha:a=j
    ·rw [if_pos ha]; omega
    ·rw [if_neg ha,if_neg (by omega)]
     exact h a j (by omega) (by omega) (by omega)
   ·rw [if_neg hb]
    by_cases ha:a=j
    ·rw [if_pos ha]; exact h (j+1) b (by omega) h2 hb
    ·rw [if_neg ha]
     by_cases ha2:a=j+1
     ·rw [if_pos ha2]; exact h j b (by omega) h2 hb
     ·rw [if_neg ha2]; exact h a b h1 h2 hb
  ·rename_i hlt
   intro a b h1 h2
   by_cases hb:b=j+1
   ·subst hb
    by_cases ha:a=j
    ·subst ha; omega
    ·have:=h a j (by omega) (by omega) (by omega)
     omega
   ·exact h a b h1 h2 hb
theorem AEz:∀ (k i:Nat) (l:List Int),i+k=l.length->1<=i->AHE (i-1) l->AHE (l.length-1) (srt k i l)
 | 0,i,l,h,hi,hu=>by
  have:i-1=l.length-1:=by omega
  rw [<- this]; exact hu
 | k+1,i,l,h,hi,hu=>by
  have:=AEz k (i+1) (bub i l) (by rw [uH]; omega) (by omega) (by
   rw [Nat.add_sub_cancel]
   exact AEy i i l (Nat.le_refl _) (by omega) fun a b h1 h2 h3=>hu a b h1 (by omega))
  rw [uH] at this
  exact this
theorem ACo (n i:Nat) (hn:n<=12) (g:List Int->List Int) (K:∀ l:List Int,l.length=n->BJ 0 (n:Int) ((i:Int)+1) l=some (g l)) (hi:i<n) :
  ∀ (j:Nat) (l:List Int),j<n->l.length=n->CI 0 (n:Int) (i:Int) (j:Int) l=some (g (bub j l))
 | 0,l,hj,hl=>FN (by
  unfold DA
  rw [if_neg (by simp),Aa (by omega)]
  exact K l hl)
 | j+1,l,hj,hl=>FN (by
  unfold DA
  have e1:IntKind.i64.wrap (((j+1:Nat):Int)-1)=(j:Int):=by rw [Aa (by omega)]; omega
  have e2:((j+1:Nat):Int).toNat=j+1:=by omega
  have e3:((j:Nat):Int).toNat=j:=by omega
  rw [if_pos (by simp<;>omega),if_pos (by omega),if_pos (by omega),e1,if_pos (by omega),if_pos (by omega),oW,AA,e2,e3]
  unfold bub
  by_cases h:l.getD (j+1) 0<l.getD j 0
  ·rw [if_pos (by simpa using h),if_pos h]
   refine LO ?_
   unfold FM
   simp only [e1,e2,e3]
   rw [if_pos (by omega),if_pos (by omega),if_pos (by omega),if_pos (by omega),if_pos (by omega),if_pos (by omega),if_pos (by omega),if_pos (by rw [List.length_set]; omega)]
   exact ACo n i hn g K hi j (AAW l j) (by omega) (by rw [oX]; exact hl)
  ·rw [if_neg (by simpa using h),if_neg h,Aa (by omega)]
   exact K l hl)
theorem ACp (n:Nat) (hn:n<=12):∀ (k i:Nat) (l:List Int),i+k=n->l.length=n->BJ 0 (n:Int) (i:Int) l=some (srt k i l)
 | 0,i,l,h,hl=>DB (by
  unfold CJ
  rw [if_neg (by simp; omega)]
  rfl)
 | k+1,i,l,h,hl=>DB (by
  unfold CJ
  rw [if_pos (by simp; omega)]
  exact ACo n i hn (srt k (i+1)) (fun l hl=>by have:=ACp n hn k (i+1) l (by omega) hl; rw [<- this]; congr 1) (by omega) i l (by omega) hl)
set_option maxRecDepth 100000 in
theorem AHF (n:Nat) (h:n<=12):∃ r,Ro (IntKind.u64.wrap (n:Int))=some r:=by
 have h1:∃ r,HF (n:Int) 0=some r:=by
  have hs:IntKind.u8.wrap (n:Int)=(n:Int):=by
   have:n=0\/n=1\/n=2\/n=3\/n=4\/n=5\/n=6\/n=7\/n=8\/n=9\/n=10\/n=11\/n=12:=by omega
   rcases this with h | h | h | h | h | h | h | h | h | h | h | h | h<;>subst h<;>rfl
  have ht:∃ r,KR (n:Int) 0=some r:=by
   unfold KR
   rw [if_neg (by simp; omega),if_pos (by rw [hs]; omega),if_pos (by
    rw [hs]
    exact Int.lt_of_lt_of_le (show (n:Int)<13 by omega) (by decide))]
   exact ⟨_,rfl⟩
  obtain ⟨r,hr⟩:=ht
  exact ⟨r,gO hr⟩
 obtain ⟨r,hr⟩:=h1
 have h2:OB (n:Int)=some r:=oM (by
  unfold Xk
  rw [if_neg (by simp; omega)]
  exact gP (by
   unfold RS
   rw [if_neg (by simp; omega)]
   exact hr))
 have hu:IntKind.u64.wrap (n:Int)=(n:Int):=by
  have:n=0\/n=1\/n=2\/n=3\/n=4\/n=5\/n=6\/n=7\/n=8\/n=9\/n=10\/n=11\/n=12:=by omega
  rcases this with h | h | h | h | h | h | h | h | h | h | h | h | h<;>subst h<;>rfl
 exact ⟨r,tj (by unfold dF; rw [hu,h2]; rfl)⟩
theorem ACq (l:List Int) (h:l.length<=12):∃ r,DI l=some r/\r.Perm l/\r.Pairwise (· <= ·):=by
 obtain ⟨b,hb⟩:=AHF l.length h
 have hins:∃ r,Dj 0 (l.length:Int) l=some r/\r.Perm l/\r.Pairwise (· <= ·):=by
  by_cases h0:l.length=0
  ·have:l=[]:=DD.1 h0
   subst this
   refine ⟨[],GW ?_,List.Perm.refl _,List.Pairwise.nil⟩
   unfold Dk
   refine DB ?_
   unfold CJ
   rw [if_neg (by rw [Aa (by omega)]; simp)]
  ·refine ⟨srt (l.length-1) 1 l,GW ?_,xI _ _ _ (by omega),?_⟩
   ·unfold Dk
    rw [Aa (by omega)]
    exact ACp l.length h (l.length-1) 1 l (by omega) rfl
   ·have hu:=AEz (l.length-1) 1 l (by omega) (Nat.le_refl _) (fun a b h1 h2=>by omega)
    have hp:=(xI (l.length-1) 1 l (by omega)).length_eq
    rw [List.pairwise_iff_getElem]
    intro i j hi hj hij
    have:=hu i j hij (by omega)
    rwa [AW hi,AW hj] at this
 obtain ⟨r,h1,h2,h3⟩:=hins
 refine ⟨r,dh ?_,h2,h3⟩
 unfold Pc
 have hq:FW 0 (l.length:Int) b l=some r:=TN (by
  unfold Jr
  refine QG ?_
  unfold IA
  rw [if_pos (by rw [Aa (by omega)]; simp; omega),h1]
  rfl)
 rw [hb,AA,hq]
 rfl
theorem ACr:∀ {a b:List Int},a.Pairwise (· < ·)->b.Pairwise (· < ·)->(∀ x,x∈a↔x∈b)->a=b
 | [],[],_,_,_=>rfl
 | [],y::b,_,_,h=>absurd ((h y).2 (by simp)) (by simp)
 | x::a,[],_,_,h=>absurd ((h x).1 (by simp)) (by simp)
 | x::a,y::b,ha,hb,h=>by
  rw [List.pairwise_cons] at ha hb
  have hxy:x=y:=by
   have h1:=(h x).1 (by simp)
   have h2:=(h y).2 (by simp)
   rcases BF.1 h1 with e | h1
   ·exact e
   ·rcases BF.1 h2 with e | h2
    ·exact e.symm
    ·have:=ha.1 y h2
     have:=hb.1 x h1
     omega
  subst hxy
  rw [ACr ha.2 hb.2 fun z=>?_]
  constructor
  ·intro hz
   rcases BF.1 ((h z).1 (by simp [hz])) with e | h
   ·subst e; have:=ha.1 z hz; omega
   ·exact h
  ·intro hz
   rcases BF.1 ((h z).2 (by simp [hz])) with e | h
   ·subst e; have:=hb.1 z hz; omega
   ·exact h
theorem ACC {view:List Int} {id x:Int} (hv:WOk view):x∈ID view id↔x∈Ck view id:=by
 unfold ID Ck
 simp only [List.mem_filter,AE,List.contains_eq_mem,decide_eq_true_eq]
 constructor
 ·rintro ⟨_,h1,h2⟩; exact ⟨h2,h1⟩
 ·rintro ⟨h1,h2⟩
  have:=hv.mem x h1
  refine ⟨?_,h2,h1⟩
  have h5:x=1\/x=2\/x=3\/x=4\/x=5\/x=6:=by omega
  rcases h5 with h | h | h | h | h | h<;>simp [h]
theorem rL {view:List Int} (hv:WOk view) (id:Int):DI (Ck view id)=some (ID view id):=by
 have hl:=Iq view id
 have:=hv.len
 obtain ⟨r,h1,h2,h3⟩:=ACq (Ck view id) (by omega)
 rw [h1]
 congr 1
 have hnd:r.Nodup:=h2.nodup_iff.2 (hv.nd.filter _)
 refine ACr ?_ (bB view id).2 fun x=>(h2.mem_iff).trans (ACC hv).symm
 have:=h3.and (List.nodup_iff_pairwise_ne.1 hnd)
 exact this.imp fun {a b} h=>by have:=h.1; have:=h.2; omega
theorem r_ {view:List Int} (hv:WOk view) (id:Int):(ID view id).length=(Ck view id).length:=by
 obtain ⟨r,h1,h2,_⟩:=ACq (Ck view id) (by have:=Iq view id; have:=hv.len; omega)
 rw [rL hv] at h1
 cases h1
 exact h2.length_eq

theorem gZ (x:List Int) (n:Int) (h:x.length<=maxLen):C8 x n=some (x.contains n):=VO (by
 have hm:x.length<=9223372036854775807:=h
 have key:=Jy (n:=x.length) (P:=fun i=>∃ r,C9 x n (x.length:Int) (i:Int)=some r/\(decide (r>=0)=(x.drop i).contains n)) ⟨-1,CT (by
  unfold Bx
  rw [if_neg (by simp)]),by simp⟩ (fun i hi ⟨r,hr,hc⟩=>by
  by_cases e:n=x[i]
  ·refine ⟨(i:Int),CT ?_,?_⟩
   ·unfold Bx
    simp only [show ((i:Int)<(x.length:Int)) from by omega,decide_true,if_true,show (0:Int)<=(i:Int) from by omega,Ab,AW hi]
    rw [if_pos (by simpa using e)]
   ·rw [Am hi,List.contains_cons,e]
    simp only [beq_self_eq_true,Bool.true_or]
    exact decide_eq_true (by omega)
  ·refine ⟨r,CT ?_,?_⟩
   ·unfold Bx
    simp only [show ((i:Int)<(x.length:Int)) from by omega,decide_true,if_true,show (0:Int)<=(i:Int) from by omega,Ab,AW hi,AO (show i<9223372036854775807 by omega)]
    rw [if_neg (by simpa using e)]
    exact hr
   ·rw [Am hi,hc,List.contains_cons]
    simp [e]) 0 (by omega)
 obtain ⟨r,hr,hc⟩:=key
 unfold Kw
 have:Dw x n=some r:=On hr
 rw [this,AA,hc,List.drop_zero])
theorem ga (m:AI) (h1:m.2.2.2.2.2.2.1.length<=68719476736) (h2:m.2.2.2.2.2.2.2.1.length<=68719476736) (h3:m.2.2.2.2.2.2.2.2.2.2.2.2.2.length<=68719476736):DG m=some m:=nX (by
 unfold XG
 rw [C6 h1,AA,BV h2,AA,C6 h3,AA])
theorem LQ.icopy {m:AI} (h:LQ m):DG m=some m:=by
 obtain ⟨h1,h2,h3⟩:=h.lens
 exact ga m (by omega) (by omega) (by omega)
theorem PA (x:Bv) (h:x.2.2.2.2.2.length<=68719476736):Hw x=some x:=wK (by
 unfold fi
 rw [BV h,AA])
theorem QI (view:List Int) (m:AI) (h:view.length<=68719476736):CS view m=some (Ck view m.1,m):=gA (by
 unfold RM
 have key:=Jy (n:=view.length) (P:=fun i=>∀ acc:List Int,acc.length<=i->Df view (view.length:Int) (i:Int) m acc=some (acc++(view.drop i).filter (· != m.1),m)) (fun acc ha=>NA (by
  unfold H6
  rw [if_neg (by simp)]
  simp)) (fun i hi ih acc ha=>NA (by
  unfold H6
  simp only [show ((i:Int)<(view.length:Int)) from by omega,decide_true,if_true,show (0:Int)<=(i:Int) from by omega,Ab,AW hi,AO (show i<9223372036854775807 by omega)]
  rw [Am hi,List.filter_cons]
  by_cases hh:(view[i] != m.1)=true
  ·rw [if_pos hh,if_pos (by simp; omega),ih _ (by simp; omega),if_pos hh,Bf]
   rfl
  ·rw [if_neg hh,ih _ (by omega),if_neg hh])) 0 (by omega) [] (by simp)
 exact key)
def ACs (m:AI) (ids:List Int) (x:Bv):List Bv:=ids.map fun v=>(x.1,m.1,v,m.2.1,x.2.2.2.2)
theorem Co (ids:List Int) (x:Bv) (m:AI) (h:ids.length<=68719476736) (hx:x.2.2.2.2.2.length<=68719476736):Aq ids x m=some (ACs m ids x,m):=di (by
 unfold Pe
 have key:=Jy (n:=ids.length) (P:=fun i=>∀ acc:List Bv,acc.length<=i->Ed ids (ids.length:Int) (i:Int) m x acc=some (acc++(ids.drop i).map (fun v=>(x.1,m.1,v,m.2.1,x.2.2.2.2)),m)) (fun acc ha=>Le (by
  unfold HQ
  rw [if_neg (by simp)]
  simp)) (fun i hi ih acc ha=>Le (by
  unfold HQ
  simp only [show ((i:Int)<(ids.length:Int)) from by omega,decide_true,if_true,show (0:Int)<=(i:Int) from by omega,Ab,AW hi,AO (show i<9223372036854775807 by omega)]
  rw [PA x hx,AA,if_pos (by simp; omega),ih _ (by simp; omega),Am hi,List.map_cons,Bf]
  rfl)) 0 (by omega) [] (by simp)
 exact key)
def AHs (m:AI):AI:=(m.1,m.2.1,m.2.2.1,m.2.2.2.1,false,false,([]:List Int),m.2.2.2.2.2.2.2.1,(0:Int),(0:Int),(0:Int),(0:Int),(U,U,(0:Int)),([]:List Int))
theorem YF (m:AI):Gx m=some (AHs m):=n_ rfl
theorem VG (view:List Int) (its:List Ah) (m:AI) (hv:WOk view) (hi:its.length<=68719476736) (hs:m.2.2.2.2.2.1=false) :
  Dy view its m=some ((Ck view m.1).map (fun v=>(3,m.1,v,m.2.1,0,its)),Z6 m view its):=az (by
 have hvl:=hv.len
 have hrl:=Iq view m.1
 unfold Ou
 rw [QI view m (by omega),AA,BV hi,AA,C6 (by show (Ck view m.1).length<=_; omega),AA,rL hv,AA]
 have ho:=r_ hv m.1
 unfold Z6
 rw [ho]
 by_cases h0:(Ck view m.1).length=0
 ·rw [if_pos (by simpa using h0),Co _ _ _ (by show (Ck view m.1).length<=_; omega) hi,AA,h0]
  rfl
 ·rw [if_neg (by simpa using h0),Co _ _ _ (by show (Ck view m.1).length<=_; omega) hi,AA]
  have:(((Ck view m.1).length:Int)==0)=false:=by simpa using h0
  rw [this]
  show some (_,(m.1,m.2.1,m.2.2.1,true,m.2.2.2.2.1,m.2.2.2.2.2.1,_))=_
  rw [hs]
  rfl)
theorem Xs (v:List Int) (x:Int) (h:v.length<=68719476736):OC v x=some (v.filter (· != x)):=xA (by
 unfold gR
 rw [C6 h,AA,TM,AA]
 rfl)
theorem gd (m:AI) (h:m.2.2.2.2.2.2.2.1.length<=34359738367):Ib m=some (Ee m):=lD (by
 unfold U5 Ee
 rw [Xo _ _ h,Zy _ _ (by unfold maxLen; omega)]
 split
 ·rw [AA]
  refine Pd ?_
  unfold JI
  rfl
 ·rw [AA]
  refine Pd ?_
  unfold JI
  rfl)
def AE0 (m:AI) (views:List (List Int)) (x:Bv):List Bv×AI :=
 if (x.2.2.2.1==m.2.1+1&&m.2.2.2.1&&(views.getD (m.2.1-1).toNat []).contains m.1)=true then ([(2,m.1,x.2.1,x.2.2.2.1,0,m.2.2.2.2.2.2.2.1)],Z7 m x.2.2.2.1) else ([],m)
theorem xJ (m:AI) (views:List (List Int)) (x:Bv) (hm:LQ m) (hv:VL views) (he:m.2.1<=views.length) :
  MS views x m=some (AE0 m views x):=lK (by
 have hvl:=hv.len
 have hep:=hm.ep
 obtain ⟨l1,l2,l3⟩:=hm.lens
 have hf:m.2.2.2.1=true->m.2.2.1=false:=fun h=>by
  cases hh:m.2.2.1 with
  | false=>rfl
  | true=>rw [(hm.fell hh).1] at h; cases h
 unfold U9 AE0
 rw [Aa (n:=m.2.1+1) (by omega),Aa (n:=m.2.1-1) (by omega)]
 by_cases c1:x.2.2.2.1=m.2.1+1
 case neg=>rw [if_pos (by simpa using c1),if_neg (by simp [c1])]
 rw [if_neg (by simpa using c1)]
 by_cases c2:m.2.2.2.1=true
 case neg=>rw [if_pos (by simpa using c2),if_neg (by simp [c2])]
 rw [if_neg (by simpa using c2),if_pos (by omega),if_pos (by omega),gZ _ _ (by have:=(hv.get (i:=(m.2.1-1).toNat) (by omega)).2; unfold maxLen; omega),AA]
 cases c3:(views.getD (m.2.1-1).toNat []).contains m.1 with
 | false=>rw [if_pos (by rfl),if_neg (by simp)]
 | true =>
  rw [if_neg (by simp),if_pos (by simp [c1,c2])]
  exact dq (by
   unfold Pk
   rw [YF,AA,Co _ _ _ (by simp) (by show m.2.2.2.2.2.2.2.1.length<=_; omega),AA]
   show some (_,(m.1,x.2.2.2.1,m.2.2.1,_))=_
   rw [hf c2]
   rfl))
def AE1 (m:AI) (e:Int) (its:List Ah):AI:=(m.1,e,false,true,false,false,([]:List Int),its,(0:Int),(0:Int),(0:Int),(0:Int),(U,U,(0:Int)),([]:List Int))
def AE2 (m:AI) (view:List Int) (x:Bv):List Bv×AI :=
 if (!view.contains m.1||(view.getD 0 0==m.1))=true then ([],m)
 else if x.2.2.2.1>m.2.1\/(m.2.2.2.1=false/\m.2.2.1=false) then ([(4,m.1,x.2.1,x.2.2.2.1,0,([]:List Ah))],AE1 m x.2.2.2.1 x.2.2.2.2.2)
 else if m.2.2.2.1=false then ([],m) else ([(4,m.1,x.2.1,m.2.1,0,([]:List Ah))],m)
theorem oY (m:AI) (view:List Int) (x:Bv) (hv:WOk view) (hx:x.2.2.2.2.2.length<=68719476736) :
  I_ view x m=some (AE2 m view x):=dr (by
 have hvl:=hv.len
 unfold Pl AE2
 rw [gZ _ _ (by unfold maxLen; omega),AA]
 cases c3:view.contains m.1 with
 | false=>rw [if_pos (by rfl),if_pos (by rfl)]
 | true =>
  rw [if_neg (by simp),if_pos (by omega),if_pos (by omega)]
  by_cases c4:view.getD 0 0=m.1
  ·rw [if_pos (by simpa using c4),if_pos (by rw [c4]; simp)]
  ·rw [if_neg (by simpa using c4),if_neg (by have:(view.getD 0 0==m.1)=false:=(by simpa using c4); rw [this]; simp)]
   have J1:∀ b:Bool,DO b m x=some (if b=true then ([(4,m.1,x.2.1,x.2.2.2.1,0,([]:List Ah))],AE1 m x.2.2.2.1 x.2.2.2.2.2) else if m.2.2.2.1=false then ([],m) else ([(4,m.1,x.2.1,m.2.1,0,([]:List Ah))],m)):=fun b=>YC (by
    unfold Lk
    cases b with
    | true =>
     rw [if_pos rfl,if_pos rfl,BV hx,AA,YF,AA,Co _ _ _ (by simp) (by simp),AA]
     rfl
    | false =>
     simp only [Bool.false_eq_true,if_false]
     cases hb:m.2.2.2.1 with
     | false=>simp
     | true =>
      simp only [Bool.not_true,Bool.false_eq_true,if_false,Bool.true_eq_false]
      rw [Co _ _ _ (by simp) (by simp),AA]
      rfl)
   refine YD ?_
   unfold Ll
   rw [J1,J1,J1]
   by_cases c5:x.2.2.2.1>m.2.1
   ·rw [if_pos (by simpa using c5)]
    simp [c5]
   ·rw [if_neg (by simpa using c5)]
    cases hb:m.2.2.2.1<;>cases hf:m.2.2.1<;>simp [c5])
def AAX (m:AI) (x:Bv):List Bv×AI :=
 if (x.2.2.2.1==m.2.1&&m.2.2.2.1)=true then
  (if x.1=7 then ([(8,m.1,x.2.1,m.2.1,x.2.2.2.2.1,([]:List Ah))],m)
  else ([(6,m.1,x.2.1,m.2.1,x.2.2.2.2.1,([]:List Ah))],(m.1,m.2.1,m.2.2.1,m.2.2.2.1,m.2.2.2.2.1,m.2.2.2.2.2.1,m.2.2.2.2.2.2.1,D4 m.2.2.2.2.2.2.2.1 (x.2.2.2.2.2.getD 0 (U,U,(0:Int))),m.2.2.2.2.2.2.2.2)))
 else ([],m)
theorem tx (m:AI) (x:Bv) (hm:m.2.2.2.2.2.2.2.1.length<=12) (h5:x.1≠7->0<x.2.2.2.2.2.length) :
  K7 x m=some (AAX m x):=i7 (by
 unfold S5 AAX
 by_cases c1:x.2.2.2.1=m.2.1
 case neg=>rw [if_pos (by simpa using c1),if_neg (by simp [c1])]
 rw [if_neg (by simpa using c1)]
 by_cases c2:m.2.2.2.1=true
 case neg=>rw [if_pos (by simpa using c2),if_neg (by simp [c2])]
 rw [if_neg (by simpa using c2),if_pos (by simp [c1,c2])]
 refine a_ ?_
 unfold O2
 by_cases c7:x.1=7
 ·rw [if_pos (by simpa using c7),if_pos c7,Co _ _ _ (by simp) (by simp),AA]
  rfl
 ·have:=h5 c7
  rw [if_neg (by simpa using c7),if_neg c7,if_pos (by omega),if_pos (by omega),Xo _ _ (by omega),AA,Co _ _ _ (by simp) (by simp),AA]
  rfl)
theorem aE (m:AI) (op:Int) (x:Bv) (hm:LQ m) :
  Gy op x m=some (if (x.2.2.2.1==m.2.1&&m.2.2.2.2.2.2.2.2.2.1==op&&m.2.2.2.2.2.2.2.2.2.2.2.1==x.2.2.2.2.1)=true then ((E7 m x.2.1).2.2,(E7 m x.2.1).1) else ([],m)):=gS (by
 obtain ⟨l1,l2,l3⟩:=hm.lens
 unfold RU
 by_cases c1:x.2.2.2.1=m.2.1
 case neg=>rw [if_pos (by simpa using c1),if_neg (by simp [c1])]
 rw [if_neg (by simpa using c1)]
 by_cases c2:m.2.2.2.2.2.2.2.2.2.1=op
 case neg=>rw [if_pos (by simpa using c2),if_neg (by simp [c2])]
 rw [if_neg (by simpa using c2)]
 by_cases c3:m.2.2.2.2.2.2.2.2.2.2.2.1=x.2.2.2.2.1
 case neg=>rw [if_pos (by simpa using c3),if_neg (by simp [c3])]
 rw [if_neg (by simpa using c3),if_pos (by simp [c1,c2,c3])]
 refine Zw ?_
 unfold ND E7
 rw [Xs _ _ (by omega),AA]
 by_cases c4:(m.2.2.2.2.2.2.2.2.2.2.2.2.2.filter (· != x.2.1)).length=0
 ·rw [if_neg (by rw [c4]; decide),if_pos (by rw [c4]; decide),gd _ (by show m.2.2.2.2.2.2.2.1.length<=_; omega)]
  rfl
 ·rw [if_pos (decide_eq_true (by omega)),if_neg (by rw [beq_iff_eq]; omega)]
  rfl)

def yX (x:Bv):Bv:=if x.1=3 then (x.1,x.2.1,x.2.2.1,x.2.2.2.1,0,x.2.2.2.2.2) else x
def ge (m:AI) (views:List (List Int)) (x:Bv):AI×List Bv×List DU:=if Z5 x=true then EB m views (yX x) else (m,[],[])
theorem AE3 (x:Bv):(yX x).2.2.1=x.2.2.1/\(yX x).2.2.2.1=x.2.2.2.1:=by unfold yX; split<;>exact ⟨rfl,rfl⟩
theorem hZ {m:AI} {views:List (List Int)} {x:Bv} (h:¬ (x.2.2.1=m.1/\m.2.1<=x.2.2.2.1/\x.2.2.2.1<=(views.length:Int)/\Z5 x=true)):ge m views x=(m,[],[]):=by
 unfold ge
 split
 ·rename_i hx
  unfold EB
  rw [if_neg (by
   rw [(AE3 x).1,(AE3 x).2]
   simp only [AE,beq_iff_eq,decide_eq_true_eq]
   exact fun g=>h ⟨g.1.1.2,g.1.2,g.2,hx⟩)]
 ·rfl
theorem AAY {x:Bv} (h:x.1≠3):yX x=x:=if_neg h
theorem AE4 {x:Bv} (h:x.1=3->x.2.2.2.2.1=0):yX x=x:=by
 unfold yX
 split
 ·rename_i e
  obtain ⟨a,b,c,d,e,f⟩:=x
  have:=h ‹_›
  dsimp only at this
  rw [this]
 ·rfl
theorem ABW {m:AI} {views:List (List Int)} {x:Bv} (hx:XOk x) (h1:x.2.2.1=m.1) (h2:m.2.1<=x.2.2.2.1) (h3:x.2.2.2.1<=(views.length:Int)):EB m views x =
  (if x.2.2.2.1=m.2.1 then bC m (views.getD (m.2.1-1).toNat []) x
  else if (x.1==1&&(x.2.2.2.1==m.2.1+1)&&m.2.2.2.1&&(views.getD (m.2.1-1).toNat []).contains m.1)=true then (Z7 m x.2.2.2.1,[(2,m.1,x.2.1,x.2.2.2.1,0,m.2.2.2.2.2.2.2.1)],[])
  else if (x.1==3&&(views.getD (x.2.2.2.1-1).toNat []).contains m.1&&((views.getD (x.2.2.2.1-1).toNat []).getD 0 0 != m.1))=true then
   ((m.1,x.2.2.2.1,false,true,false,false,([]:List Int),x.2.2.2.2.2,(0:Int),(0:Int),(0:Int),(0:Int),(U,U,(0:Int)),([]:List Int)),FC m x 4,[])
  else (m,[],[])):=by
 unfold EB
 rw [if_pos (by rw [hU.2 hx]; simp [h1,h2,h3])]
theorem oZ {a:AI} {b:List Bv} {c:List DU} {r:AI×List Bv×List DU} (h:r=(a,b,c)):(b,c,a)=(r.2.1,r.2.2,r.1):=by rw [h]
theorem xK (m:AI) (views:List (List Int)) (x:Bv) (hm:LQ m) (hv:VL views) (hx:XOk x) (h1:x.2.2.1=m.1) (h2:m.2.1<=x.2.2.2.1) (h3:x.2.2.2.1<=(views.length:Int)) :
  MR views x m=some ((ge m views x).2.1,(ge m views x).2.2,(ge m views x).1):=lJ (by
 have hvl:=hv.len
 have hep:=hm.ep
 have hxe:=hx.ep
 have hxi:=NE hx.items
 obtain ⟨l1,l2,l3⟩:=hm.lens
 have hin:=ABW hx h1 h2 h3
 unfold U8 ge
 rw [if_pos (hU.2 hx)]
 have hV:=hv.wok (i:=(m.2.1-1).toNat) (by omega)
 generalize hVe:views.getD (m.2.1-1).toNat []=V at hV hin
 have hk:=hx.kind
 by_cases k1:x.1=1
 ·rw [if_pos (by simpa using k1),xJ m views x hm hv (by omega),AA,AAY (by omega)]
  congr 1
  apply oZ
  rw [hin]
  unfold AE0
  rw [hVe]
  by_cases e:x.2.2.2.1=m.2.1
  ·rw [if_pos e,if_neg (by rw [e]; simp; omega)]
   unfold bC
   simp [k1]
  ·rw [if_neg e]
   cases hc:(x.2.2.2.1==m.2.1+1&&m.2.2.2.1&&V.contains m.1) with
   | true =>
    rw [if_pos (by rw [k1]; simpa using hc),if_pos rfl]
   | false =>
    rw [if_neg (by rw [k1]; simpa using hc),if_neg (by simp [k1]),if_neg (by simp)]
 rw [if_neg (by simpa using k1)]
 by_cases k2:x.1=2
 ·have J:∀ b:Bool,(b=true->m.2.2.2.1=false)->EL views b m x=some (if b=true then ((Ck V m.1).map (fun v=>(3,m.1,v,m.2.1,0,x.2.2.2.2.2)),[],Z6 m V x.2.2.2.2.2) else ([],[],m)):=fun b hb=>dl (by
   unfold Pg
   cases b with
   | false=>rw [if_neg (by simp),if_neg (by simp)]
   | true =>
    have hs:m.2.2.2.2.2.1=false:=by
     cases hh:m.2.2.2.2.2.1 with
     | false=>rfl
     | true=>have:=(hm.serves hh).1; rw [hb rfl] at this; cases this
    rw [if_pos rfl,if_pos rfl,Aa (by omega),if_pos (by omega),if_pos (by omega),hVe,VG V _ m hV (by omega) hs,AA])
  rw [if_pos (by simpa using k2),AAY (by omega)]
  by_cases e:x.2.2.2.1=m.2.1
  ·rw [if_pos (by simpa using e)]
   have ho:EB m views x=(if (m.2.2.2.2.1&&!m.2.2.2.1)=true then (Z6 m V x.2.2.2.2.2,(Ck V m.1).map (fun v=>(3,m.1,v,m.2.1,0,x.2.2.2.2.2)),[]) else (m,[],[])):=by
    rw [hin,if_pos e]; unfold bC; rw [if_pos k2]
   rw [ho]
   cases hl:m.2.2.2.2.1 with
   | false=>rw [if_neg (by simp),J false (by simp),if_neg (by simp),if_neg (by simp)]
   | true =>
    rw [if_pos (by rfl),J _ (by simp)]
    cases hb:m.2.2.2.1 with
    | true=>rw [if_neg (by simp),if_neg (by simp)]
    | false=>rw [if_pos (by rfl),if_pos (by rfl)]
  ·rw [if_neg (by simpa using e),J false (by simp),if_neg (by simp)]
   congr 1
   apply oZ
   rw [hin,if_neg e,if_neg (by simp [k2]),if_neg (by simp [k2])]
 rw [if_neg (by simpa using k2)]
 by_cases k3:x.1=3
 ·have hW:=hv.wok (i:=(x.2.2.2.1-1).toNat) (by omega)
  rw [if_pos (by simpa using k3),Aa (by omega),if_pos (by omega),if_pos (by omega)]
  have hx':XOk (yX x):=by
   unfold yX
   rw [if_pos k3]
   exact ⟨hx.kind,hx.frm,hx.to,hx.ep,(show (0:Int)<=0/\(0:Int)<=1000000000 from by decide),hx.items,hx.shape⟩
  have hf:yX x=(x.1,x.2.1,x.2.2.1,x.2.2.2.1,0,x.2.2.2.2.2):=if_pos k3
  have hin2:=ABW (m:=m) (views:=views) hx' (by rw [hf]; exact h1) (by rw [hf]; exact h2) (by rw [hf]; exact h3)
  rw [hVe] at hin2
  generalize hWe:views.getD (x.2.2.2.1-1).toNat []=Wv at hW
  rw [oY m Wv x hW (by omega),AA]
  congr 1
  apply oZ
  rw [hin2,hf]
  dsimp only
  rw [hWe]
  unfold AE2
  by_cases e:x.2.2.2.1=m.2.1
  ·have hVW:Wv=V:=by rw [<- hWe,<- hVe,e]
   rw [if_pos e]
   unfold bC
   rw [if_neg (by rw [k3]; decide),if_pos k3,hVW]
   dsimp only
   cases hc:(!V.contains m.1||(V.getD 0 0==m.1)) with
   | true=>simp only [if_true]
   | false =>
    simp only [Bool.false_eq_true,if_false]
    cases hb:m.2.2.2.1<;>cases hf2:m.2.2.1<;>simp [e,FC,AE1]
  ·rw [if_neg e,if_neg (by rw [k3]; simp)]
   cases hc:(!Wv.contains m.1||(Wv.getD 0 0==m.1)) with
   | true =>
    rw [if_neg (by
     intro h
     simp only [AE,bne_iff_ne,Do,EY,beq_iff_eq] at h hc
     rcases hc with hc | hc
     ·rw [hc] at h; exact absurd h.1.2 (by simp)
     ·exact h.2 hc),if_pos rfl]
   | false =>
    rw [if_pos (by
     simp only [Bool.or_eq_false_iff,Bool.not_eq_false'] at hc
     rw [k3,hc.1]
     simpa using hc.2),if_neg (by simp),if_pos (Or.inl (by omega))]
    rfl
 rw [if_neg (by simpa using k3),AAY k3]
 by_cases k4:x.1=4
 ·rw [if_pos (by simpa using k4)]
  have J:∀ b:Bool,GO b m x=some (if b=true then ([],[],(m.1,m.2.1,m.2.2.1,m.2.2.2.1,m.2.2.2.2.1,m.2.2.2.1&&(((m.2.2.2.2.2.2.1.filter (· != x.2.1)).length:Int)==0),m.2.2.2.2.2.2.1.filter (· != x.2.1),m.2.2.2.2.2.2.2)) else ([],[],m)):=fun b=>dn (by
   unfold Ph
   cases b with
   | false=>rw [if_neg (by simp),if_neg (by simp)]
   | true =>
    rw [if_pos rfl,if_pos rfl,Xs _ _ (by omega),AA]
    cases hs:m.2.2.2.2.2.1 with
    | true =>
     obtain ⟨q1,q2,q3⟩:=hm.serves hs
     rw [if_neg (by simp),q3,q1]
     rfl
    | false =>
     rw [if_pos rfl]
     cases hq:(((m.2.2.2.2.2.2.1.filter (· != x.2.1)).length:Int)==0) with
     | true=>rw [if_pos rfl,Bool.and_true]
     | false=>rw [if_neg (by simp),Bool.and_false])
  by_cases e:x.2.2.2.1=m.2.1
  ·rw [if_pos (by simpa using e),J]
   have ho:EB m views x=(if m.2.2.2.2.1=true then
     ((m.1,m.2.1,m.2.2.1,m.2.2.2.1,m.2.2.2.2.1,m.2.2.2.1&&(((m.2.2.2.2.2.2.1.filter (· != x.2.1)).length:Int)==0),m.2.2.2.2.2.2.1.filter (· != x.2.1),m.2.2.2.2.2.2.2),[],[]) else (m,[],[])):=by
    rw [hin,if_pos e]; unfold bC; rw [if_neg k2,if_neg k3,if_pos k4]
   rw [ho]
   cases hl:m.2.2.2.2.1 with
   | false=>rw [if_neg (by simp),if_neg (by simp)]
   | true=>rw [if_pos rfl,if_pos rfl]
  ·rw [if_neg (by simpa using e),J,if_neg (by simp)]
   congr 1
   apply oZ
   rw [hin,if_neg e,if_neg (by simp [k4]),if_neg (by simp [k4])]
 rw [if_neg (by simpa using k4)]
 have st:x.1=5\/x.1=7->AAX m x=((EB m views x).2.1,(EB m views x).1)/\(EB m views x).2.2=[]:=fun hk=>by
  rw [hin]
  unfold AAX
  by_cases e:x.2.2.2.1=m.2.1
  ·rw [if_pos e]
   unfold bC FC
   rw [if_neg k2,if_neg k3,if_neg k4,e]
   cases hb:m.2.2.2.1 with
   | true =>
    rcases hk with hk | hk
    ·rw [if_pos (by simp),if_neg (by omega),if_pos hk,if_pos rfl]
     exact ⟨rfl,rfl⟩
    ·rw [if_pos (by simp),if_pos hk,if_neg (by omega),if_pos hk,if_pos rfl]
     exact ⟨rfl,rfl⟩
   | false =>
    rcases hk with hk | hk
    ·rw [if_neg (by simp),if_pos hk,if_neg (by simp)]
     exact ⟨rfl,rfl⟩
    ·rw [if_neg (by simp),if_neg (by omega),if_pos hk,if_neg (by simp)]
     exact ⟨rfl,rfl⟩
  ·simp [e,k1,k3]
 have sd:∀ op,x.1=6/\op=1\/x.1=8/\op=2->(if (x.2.2.2.1==m.2.1&&m.2.2.2.2.2.2.2.2.2.1==op&&m.2.2.2.2.2.2.2.2.2.2.2.1==x.2.2.2.2.1)=true then ((E7 m x.2.1).2.2,(E7 m x.2.1).1) else ([],m))=((EB m views x).2.2,(EB m views x).1)/\(EB m views x).2.1=[]:=fun op hk=>by
  have ht:(E7 m x.2.1).2.1=[]:=by unfold E7; split<;>rfl
  rw [hin]
  by_cases e:x.2.2.2.1=m.2.1
  ·rw [if_pos e]
   unfold bC
   rw [if_neg k2,if_neg k3,if_neg k4,if_neg (show ¬ x.1=5 by omega),if_neg (show ¬ x.1=7 by omega),e]
   have hop:(if x.1=8 then (2:Int) else 1)=op:=by
    rcases hk with ⟨h,h'⟩ | ⟨h,h'⟩
    ·rw [if_neg (by omega),h']
    ·rw [if_pos h,h']
   rw [hop]
   by_cases c1:m.2.2.2.2.2.2.2.2.2.1=op
   ·by_cases c2:m.2.2.2.2.2.2.2.2.2.2.2.1=x.2.2.2.2.1
    ·rw [if_pos (by simp [c1,c2]),if_pos ⟨by omega,c1,c2⟩]
     exact ⟨rfl,ht⟩
    ·simp [c2]
   ·simp [c1]
  ·simp [e,k1,k3]
 have h7:x.1≠7->x.1=5->0<x.2.2.2.2.2.length:=fun _ h5=>by
  have:=hx.shape
  rw [if_neg (by omega),if_pos h5] at this
  omega
 have J2:∀ b:Bool,(b=true↔x.1=5\/x.1=7)->GP x.1 b m x=some ((EB m views x).2.1,(EB m views x).2.2,(EB m views x).1):=fun b hb=>dp (by
  unfold Pi
  cases b with
  | true =>
   have hk5:=hb.1 rfl
   obtain ⟨q1,q2⟩:=st hk5
   rw [if_pos rfl,tx m x l2 (fun h=>h7 h (by omega)),AA,q1,q2]
  | false =>
   have hn:¬ (x.1=5\/x.1=7):=fun h=>by have:=hb.2 h; cases this
   rw [if_neg (by simp)]
   by_cases k6:x.1=6
   ·obtain ⟨q1,q2⟩:=sd 1 (.inl ⟨k6,rfl⟩)
    rw [if_pos (by simpa using k6),aE m 1 x hm,AA,q1,q2]
   ·obtain ⟨q1,q2⟩:=sd 2 (.inr ⟨by omega,rfl⟩)
    rw [if_neg (by simpa using k6),if_pos (by rw [beq_iff_eq]; omega),aE m 2 x hm,AA,q1,q2])
 by_cases k5:x.1=5
 ·rw [if_pos (by simpa using k5),J2 _ (by simp [k5])]
 ·rw [if_neg (by simpa using k5),J2 _ (by simp [k5])])
theorem Mt {m:AI} (h:LQ m):Gc m=some true:=by
 obtain ⟨h1,h2,h3⟩:=h.lens
 rw [lM m (by unfold maxLen; omega) (by unfold maxLen; omega) (by unfold maxLen; omega),ACk.2 h]
theorem HJ {views:List (List Int)} (h:VL views):DL views=some true:=by
 have:=h.len
 rw [Xq views (by unfold maxLen; omega) (fun a ha=>by have:=(h.view ha).2; unfold maxLen; omega),h.ok]
theorem ob (m:AI) (views:List (List Int)) (x:Bv) (hm:LQ m) (hv:VL views) (hx:x.2.2.2.2.2.length<=68719476736) :
  N9 m views x=some (ge m views x):=wX (by
 have hxm:x.2.2.2.2.2.length<=maxLen:=by unfold maxLen; omega
 unfold gC
 rw [hm.icopy,AA]
 by_cases c1:x.2.2.1=m.1
 case neg=>rw [if_neg (by simpa using c1),hZ (fun h=>c1 h.1)]
 rw [if_pos (by simpa using c1)]
 by_cases c2:x.2.2.2.1<m.2.1
 ·rw [if_neg (by simpa using c2),hZ (fun h=>by omega)]
 rw [if_pos (by simpa using c2)]
 by_cases c3:x.2.2.2.1>(views.length:Int)
 ·rw [if_neg (by simpa using c3),hZ (fun h=>by omega)]
 rw [if_pos (by simpa using c3),Mt hm,AA,if_pos (by rfl),HJ hv,AA,if_pos (by rfl),tu x hxm,AA]
 cases hmo:Z5 x with
 | false=>rw [if_pos (by rfl),hZ (fun h=>by rw [hmo] at h; cases h.2.2.2)]
 | true =>
  rw [if_neg (by simp)]
  have hx':=hU.1 hmo
  refine oA ?_
  unfold XY
  have hok:LQ (ge m views x).1:=by
   unfold ge
   rw [if_pos hmo]
   exact (aA hm hv).mok
  rw [xK m views x hm hv hx' c1 (by omega) (by omega),AA,hok.icopy,AA])

theorem yY (x:List Int):j_ x=some (decide ((x.length:Int)>1048576)):=AB7 rfl
theorem yZ (m:AI):Wd m=some (dJ m):=ABL rfl



def ja (k:ByteArray) (b:Ah):Bool:=b.1.toList==k.toList
theorem ABX (k:ByteArray):∀ x:List Ah,(x.filter (Z0 k)).length+(x.filter (TO k)).length+(x.filter (ja k)).length=x.length
 | []=>rfl
 | b::x=>by
  have ih:=ABX k x
  have hi:TO k b=!(Z0 k b||ja k b):=rfl
  cases hl:Z0 k b with
  | true =>
   have hs:ja k b=false:=by
    cases q:ja k b with
    | false=>rfl
    | true =>
     have e:b.1.toList=k.toList:=by simpa [ja] using q
     unfold Z0 at hl
     rw [e,hP] at hl
     cases hl
   simp only [List.filter_cons,hi,hl,hs,Bool.true_or,Bool.not_true,if_true,Bool.false_eq_true,if_false,List.length_cons]
   omega
  | false =>
   cases hs:ja k b with
   | true =>
    simp only [List.filter_cons,hi,hl,hs,Bool.false_or,Bool.not_true,if_true,Bool.false_eq_true,if_false,List.length_cons]
    omega
   | false =>
    simp only [List.filter_cons,hi,hl,hs,Bool.or_false,Bool.not_false,if_true,Bool.false_eq_true,if_false,List.length_cons]
    omega
def Mu (x:List Ah) (k:ByteArray):Bool:=x.any (ja k)
theorem xL {x:List Ah} {k:ByteArray}:Mu x k=true↔1<=(x.filter (ja k)).length:=by
 unfold Mu
 rw [List.any_eq_true]
 constructor
 ·rintro ⟨b,hb,hs⟩
  exact List.length_pos_of_mem (List.mem_filter.2 ⟨hb,hs⟩)
 ·intro h
  obtain ⟨b,hb⟩:=List.exists_mem_of_length_pos h
  exact ⟨b,(List.mem_filter.1 hb).1,(List.mem_filter.1 hb).2⟩
theorem sA {x:List Ah} {k:ByteArray} (h:Mu x k=false):DX x k=(U,U,0):=by
 unfold DX
 have:x.find? (fun a=>a.1.toList==k.toList)=none:=by
  rw [List.find?_eq_none]
  intro b hb hs
  have:Mu x k=true:=List.any_eq_true.2 ⟨b,hb,hs⟩
  rw [h] at this
  cases this
 rw [this]
 rfl
theorem ACD {x:List Ah} {k:ByteArray} (h:Mu x k=true):DX x k∈x/\(DX x k).1.toList=k.toList:=by
 obtain ⟨b,hb,hs⟩:=List.any_eq_true.1 h
 unfold DX
 cases q:x.find? (fun a=>a.1.toList==k.toList) with
 | none =>
  rw [List.find?_eq_none] at q
  exact absurd hs (q b hb)
 | some c=>exact ⟨List.mem_of_find?_eq_some q,by simpa using List.find?_some q⟩
theorem AE5 {x:List Ah} {k:ByteArray} (hx:BN x=true):dy (.pair .str (.pair .str (.int .i64))) (DX x k) (U,U,(0:Int))=!Mu x k:=by
 cases h:Mu x k with
 | false=>rw [sA h]; exact ABR _
 | true =>
  obtain ⟨h1,h2⟩:=ACD h
  have h3:=(IL.1 hx).1 _ h1
  unfold MD at h3
  simp only [AE,decide_eq_true_eq] at h3
  have h4:((DX x k).2.2==(0:Int))=false:=by
   rw [beq_eq_false_iff_ne]
   omega
  show ((DX x k).1.toList==_&&((DX x k).2.1.toList==_&&((DX x k).2.2==(0:Int))))=false
  rw [h4,Bool.and_false,Bool.and_false]
theorem AGO {x:List Ah} {a:Ah} (hx:BN x=true) (ha:MD a=true) (hv:RZ x (a.2.2-1)) :
  D4 x a=if x.length=12/\Mu x a.1=false then x else Z1 x a:=by
 obtain ⟨h1,h2,h3⟩:=IL.1 hx
 have hs:gW x a=false:=by
  cases q:gW x a with
  | false=>rfl
  | true =>
   obtain ⟨b,hb,hc⟩:=List.any_eq_true.1 q
   simp only [AE,decide_eq_true_eq] at hc
   have:=hv b hb
   omega
 have hl:=ABX a.1 x
 have hlen:(Z1 x a).length=(x.filter (Z0 a.1)).length+1+(x.filter (TO a.1)).length:=by simp [Z1]; omega
 unfold D4
 rw [hs,if_neg (by simp),if_pos hx]
 have hk:BN (Z1 x a)=true↔(Z1 x a).length<=12:=by
  rw [IL]
  refine ⟨fun h=>h.2.2,fun h=>⟨fun b hb=>?_,xD a h2,h⟩⟩
  rcases ABQ hb with e | e
  ·rw [e]; exact ha
  ·exact h1 b e
 cases hh:Mu x a.1 with
 | true =>
  have:=xL.1 hh
  rw [if_pos (hk.2 (by omega)),if_neg (by simp)]
 | false =>
  have h0:(x.filter (ja a.1)).length=0:=by
   rcases Nat.eq_zero_or_pos (x.filter (ja a.1)).length with e | e
   ·exact e
   ·have:=xL.2 e
    rw [hh] at this
    cases this
  by_cases h12:x.length=12
  ·rw [if_neg (fun h=>by have:=hk.1 h; omega),if_pos ⟨h12,rfl⟩]
  ·rw [if_pos (hk.2 (by omega)),if_neg (fun h=>h12 h.1)]
theorem ACE {x:List Ah} {a:Ah} (hx:BN x=true) (ha:MD a=true) (hv:RZ x (a.2.2-1)) :
  dy (.pair .str (.pair .str (.int .i64))) (DX (D4 x a) a.1) a=!(decide (x.length=12)&&!Mu x a.1):=by
 obtain ⟨h1,h2,h3⟩:=IL.1 hx
 have ha2:=ha
 unfold MD at ha2
 simp only [AE,decide_eq_true_eq] at ha2
 rw [AGO hx ha hv]
 by_cases h:x.length=12/\Mu x a.1=false
 ·rw [if_pos h,sA h.2,h.2,decide_eq_true h.1]
  have h4:((0:Int)==a.2.2)=false:=by
   rw [beq_eq_false_iff_ne]
   omega
  show (_&&(_&&((0:Int)==a.2.2)))=false
  rw [h4,Bool.and_false,Bool.and_false]
 ·rw [if_neg h,AB_ (xD a h2) AEu,ABR]
  by_cases h12:x.length=12
  ·cases hh:Mu x a.1 with
   | true=>simp
   | false=>exact absurd ⟨h12,hh⟩ h
  ·simp [h12]
def mbS (m:AI) (views:List (List Int)):Bool:=m.2.2.2.2.2.1&&(m.2.2.2.2.2.2.2.2.2.1==0)&&decide (m.2.2.2.2.2.2.2.2.1<900)&&decide (m.2.1<=(views.length:Int))&&((views.getD (m.2.1-1).toNat []).getD 0 0==m.1)
def akS (op call:Int) (key val:ByteArray):Bool:=(op==1||op==2)&&(decide (0<=call)&&decide (call<=1000))&&(decide (1<=(key.size:Int))&&decide ((key.size:Int)<=12))&&decide ((val.size:Int)<=20)&&(op==1||isE val)
theorem xM (m:AI) (views:List (List Int)) (op call:Int) (key val:ByteArray):bD m views op call key val=(mbS m views&&akS op call key val):=by
 unfold bD mbS akS
 ac_rfl
theorem lT (m:AI) (views:List (List Int)) (hm:LQ m) (hv:VL views):Ia views m=some (mbS m views,m):=au (by
 have hvl:=hv.len
 have hep:=hm.ep
 have hcnt:=hm.count
 have wm:IntKind.i64.wrap (m.2.1-1)=m.2.1-1:=Aa (by omega)
 unfold Ot mbS
 cases h1:m.2.2.2.2.2.1 with
 | false=>rfl
 | true =>
  rw [if_pos (by rfl)]
  by_cases h2:m.2.2.2.2.2.2.2.2.2.1=0
  ·rw [if_pos (by rw [h2]; rfl),h2]
   by_cases h3:m.2.2.2.2.2.2.2.2.1=900
   ·rw [if_neg (by rw [h3]; simp),h3]
    rfl
   ·rw [if_pos (by simpa using h3),decide_eq_true (show m.2.2.2.2.2.2.2.2.1<900 by omega)]
    by_cases h4:m.2.1>(views.length:Int)
    ·rw [if_pos (by simpa using h4),decide_eq_false (show ¬ m.2.1<=(views.length:Int) by omega)]
     rfl
    ·rw [if_neg (by simpa using h4),decide_eq_true (show m.2.1<=(views.length:Int) by omega)]
     refine VP ?_
     have g1:=hv.get (i:=(m.2.1-1).toNat) (by omega)
     unfold Ky
     rw [HJ hv,AA,if_pos (by rfl),wm,if_pos (by omega),if_pos (by omega),if_pos (by omega),if_pos (by omega)]
     rfl
  ·rw [if_neg (by simpa using h2),show (m.2.2.2.2.2.2.2.2.2.1==(0:Int))=false by simpa using h2]
   rfl)
theorem xN (op call:Int) (key val:ByteArray):N8 op call key val=some (akS op call key val):=nW (by
 have w:∀ b,L8 op val b=some (op==1||isE val):=fun b=>cV (by
  unfold Rr
  rw [rE]
  by_cases h:op=1
  ·rw [if_neg (by simp [h]),h]; rfl
  ·rw [if_pos (by simpa using h),show (op==1)=false by simpa using h]; rfl)
 unfold an akS
 have ADd:decide ((val.size:Int)>20)=!decide ((val.size:Int)<=20):=by
  by_cases h:(val.size:Int)<=20
  ·rw [decide_eq_true h,decide_eq_false (by omega)]; rfl
  ·rw [decide_eq_false h,decide_eq_true (by omega)]; rfl
 have h12:(op==1||op==2)=(decide (1<=op)&&decide (op<=2)):=by
  by_cases a:op=1
  ·subst a; rfl
  ·by_cases b:op=2
   ·subst b; rfl
   ·rw [show (op==1)=false by simpa using a,show (op==2)=false by simpa using b,<- Bool.decide_and,decide_eq_false (by omega)]; rfl
 rw [BI,AA,BI,R1,h12]
 cases (decide (1<=op)&&decide (op<=2)) with
 | false=>rfl
 | true =>
  rw [if_pos (by rfl),AA]
  cases (decide (0<=call)&&decide (call<=1000)) with
  | false=>rfl
  | true =>
   rw [if_pos (by rfl),AA]
   cases (decide (1<=(key.size:Int))&&decide ((key.size:Int)<=12)) with
   | false=>rfl
   | true =>
    rw [if_pos (by rfl),ADd,w]
    cases decide ((val.size:Int)<=20)<;>rfl)
theorem tz (m:AI) (views:List (List Int)) (op call:Int) (key val:ByteArray) (hm:LQ m) (hv:VL views) (h1:V1 views m):TK m views op call key val=some (DY m views op call key val):=AAN (by
 have hvl:=hv.len
 have hep:=hm.ep
 have hcnt:=hm.count
 have hl:=hm.lens
 have wm:IntKind.i64.wrap (m.2.1-1)=m.2.1-1:=Aa (by omega)
 have wc:IntKind.i64.wrap (m.2.2.2.2.2.2.2.2.1+1)=m.2.2.2.2.2.2.2.2.1+1:=Aa (by omega)
 have wk:IntKind.i64.wrap (1000*m.2.1)=1000*m.2.1:=Aa (by omega)
 have wv:IntKind.i64.wrap (1000*m.2.1+(m.2.2.2.2.2.2.2.2.1+1))=1000*m.2.1+(m.2.2.2.2.2.2.2.2.1+1):=Aa (by omega)
 unfold nt DY
 rw [Mt hm,AA,if_pos (by rfl),lT m views hm hv,AA,xN,xM]
 cases hb:mbS m views with
 | false=>rfl
 | true =>
  dsimp only
  rw [if_pos (by rfl),AA]
  cases ha:akS op call key val with
  | false=>rfl
  | true =>
   rw [if_neg (by simp),if_pos (by rfl)]
   have hmay:bD m views op call key val=true:=by rw [xM,hb,ha]; rfl
   obtain ⟨s1,s2,s3,s4,s5,s6,s7,s8,s9,s10⟩:=rI hmay
   obtain ⟨b1,b2,_⟩:=hm.serves s1
   have hw:=hv.wok (i:=(m.2.1-1).toNat) (by omega)
   have hwl:=hw.len
   have hrl:=Iq (views.getD (m.2.1-1).toNat []) m.1
   have ho:=r_ hw m.1
   have hone:MD (Lo m key val)=true:=(IL.1 (ABT hm s3 s6 s7)).1 _ (by simp)
   have href:=ACE (a:=Lo m key val) hm.items hone ((h1.own b2 b1).mono (by show _<=1000*m.2.1+(m.2.2.2.2.2.2.2.2.1+1)-1; omega))
   have hz:=AE5 (k:=key) hm.items
   have J1:∀ b z,It views op call b m z (m.1,m.2.1,m.2.2.1,m.2.2.2.1,m.2.2.2.2.1,m.2.2.2.2.2.1,m.2.2.2.2.2.2.1,m.2.2.2.2.2.2.2.1,m.2.2.2.2.2.2.2.2.1+1,m.2.2.2.2.2.2.2.2.2) (key,val,1000*m.2.1+(m.2.2.2.2.2.2.2.2.1+1))=some (VD m (views.getD (m.2.1-1).toNat []) op call key val):=fun b z=>tG (by
    unfold cf
    rw [wm,if_pos (by omega),if_pos (by omega),QI _ _ (by omega),AA,C6 (by show (Ck (views.getD (m.2.1-1).toNat []) m.1).length<=_; omega),AA]
    have hsort:=rL hw m.1
    change ((DI (Ck (views.getD (m.2.1-1).toNat []) m.1)).bind _)=_
    rw [hsort,AA]
    have J2:∀ a c d e x,(∀ q:Bv,q=x->q.2.2.2.2.2.length<=12)->(ACs (Jv m (views.getD (m.2.1-1).toNat []) op call key val) (Ck (views.getD (m.2.1-1).toNat []) m.1) x=yV m (views.getD (m.2.1-1).toNat []) op key val) ->
      L_ (Ck (views.getD (m.2.1-1).toNat []) m.1) a c (Jv m (views.getD (m.2.1-1).toNat []) op call key val) d e x=some (VD m (views.getD (m.2.1-1).toNat []) op call key val):=fun a c d e x hx12 htell=>tF (by
     have hx:=hx12 x rfl
     unfold cd VD
     by_cases h0:(Ck (views.getD (m.2.1-1).toNat []) m.1).length=0
     ·rw [if_pos (by simpa using h0),if_pos (DD.1 (by rw [ho,h0])),gd _ (by show m.2.2.2.2.2.2.2.1.length<=_; omega),AA]
     ·rw [if_neg (by simpa using h0),if_neg (fun e=>h0 (by rw [<- ho,e]; rfl)),Co _ _ _ (by omega) (by omega),AA,htell]
      exact ow)
    by_cases hop:op=1
    ·rw [if_pos (by simpa using hop)]
     refine J2 _ _ _ _ _ (fun q e=>by subst e; simp) ?_
     unfold ACs yV
     simp only [hop,if_true]
     rfl
    ·rw [if_neg (by simpa using hop)]
     refine J2 _ _ _ _ _ (fun q e=>by subst e; simp) ?_
     unfold ACs yV
     simp only [hop,if_false]
     rfl)
   refine tH ?_
   unfold cg
   rw [hm.icopy,AA,wc,wk,wv]
   by_cases hop:op=1
   ·rw [if_pos (by simpa using hop)]
    by_cases h12:m.2.2.2.2.2.2.2.1.length=12
    ·rw [if_pos (by simp only [beq_iff_eq]; omega),Zy _ _ (by unfold maxLen; omega),AA]
     change (if (false != dy (.pair .str (.pair .str (.int .i64))) (DX m.2.2.2.2.2.2.2.1 key) (U,U,(0:Int)))=true then _ else _)=_
     rw [hz]
     rw [h12] at href
     cases hh:Mu m.2.2.2.2.2.2.2.1 key with
     | false =>
      have hh2:Mu m.2.2.2.2.2.2.2.1 (Lo m key val).1=false:=hh
      rw [hh2] at href
      rw [if_pos (by rfl),if_pos ⟨hop,href⟩]
      rfl
     | true =>
      have hh2:Mu m.2.2.2.2.2.2.2.1 (Lo m key val).1=true:=hh
      rw [hh2] at href
      rw [if_neg (by simp),if_neg (fun h=>by have:=h.2; change dy (.pair .str (.pair .str (.int .i64))) (DX _ (Lo m key val).1) _=false at this; rw [href] at this; cases this)]
      exact J1 _ _
    ·rw [if_neg (by simp; omega),if_neg (fun h=>by
      have:=h.2
      change dy (.pair .str (.pair .str (.int .i64))) (DX _ (Lo m key val).1) _=false at this
      rw [href,decide_eq_false h12] at this
      cases this)]
     exact J1 _ _
   ·rw [if_neg (by simpa using hop),if_neg (fun h=>hop h.1)]
    exact J1 _ _)

def AAZ (m:AI) (views:List (List Int)) (e:Int):AI×List Bv×Bool :=
 if 2<=e/\e<=(views.length:Int)/\m.2.1<e/\(views.getD (e-1).toNat []).getD 0 0=m.1 then
  if (m.2.2.2.1&&(m.2.1==e-1))=true then
   (Z6 (NK m e) (views.getD (e-1).toNat []) m.2.2.2.2.2.2.2.1,(Ck (views.getD (e-1).toNat []) m.1).map (fun v=>(3,m.1,v,e,0,m.2.2.2.2.2.2.2.1)),true)
  else (NK m e,(Ck (views.getD (e-2).toNat []) m.1).map (fun v=>(1,m.1,v,e,0,[])),true)
 else (Ln,[],false)
theorem t6 (m:AI) (views:List (List Int)) (e:Int) (hm:LQ m) (hv:VL views):TL m views e=some (AAZ m views e):=AAO (by
 have hvl:=hv.len
 have hep:=hm.ep
 have hl:=hm.lens
 unfold nw AAZ
 rw [Mt hm,AA,if_neg (by simp),HJ hv,AA,if_neg (by simp),BI,AA]
 by_cases h1:2<=e/\e<=(views.length:Int)
 case neg =>
  rw [if_pos (by rw [<- Bool.decide_and,decide_eq_false h1]; rfl),if_neg (fun h=>h1 ⟨h.1,h.2.1⟩)]
  rfl
 have we:IntKind.i64.wrap (e-1)=e-1:=Aa (by omega)
 have we2:IntKind.i64.wrap (e-2)=e-2:=Aa (by omega)
 rw [if_neg (by rw [<- Bool.decide_and,decide_eq_true h1]; simp),we]
 by_cases h2:m.2.1<e
 case neg =>
  rw [if_pos (by simp; omega),if_neg (fun h=>h2 h.2.2.1)]
  rfl
 have g1:=hv.get (i:=(e-1).toNat) (by omega)
 have hw:=hv.wok (i:=(e-1).toNat) (by omega)
 have hw2:=hv.wok (i:=(e-2).toNat) (by omega)
 have hwl:=hw2.len
 rw [if_neg (by simp; omega),if_pos (by omega),if_pos (by omega),if_pos (by omega),if_pos (by omega)]
 by_cases h3:(views.getD (e-1).toNat []).getD 0 0=m.1
 case neg =>
  rw [if_pos (by simpa using h3),if_neg (fun h=>h3 h.2.2.2)]
  rfl
 rw [if_neg (by simpa using h3),if_pos ⟨h1.1,h1.2,h2,h3⟩]
 refine tJ ?_
 unfold cm
 rw [hm.icopy,AA,we]
 have J1:∀ b z,MA views e b m z m=some (if b=true then (Z6 (NK m e) (views.getD (e-1).toNat []) m.2.2.2.2.2.2.2.1,(Ck (views.getD (e-1).toNat []) m.1).map (fun v=>(3,m.1,v,e,0,m.2.2.2.2.2.2.2.1)),true)
   else (NK m e,(Ck (views.getD (e-2).toNat []) m.1).map (fun v=>(1,m.1,v,e,0,[])),true)):=fun b z=>tI (by
  unfold cj
  rw [YF,AA,we,we2]
  cases b with
  | true =>
   rw [if_pos rfl,if_pos (by omega),if_pos (by omega)]
   change ((Dy (views.getD (e-1).toNat []) m.2.2.2.2.2.2.2.1 (NK m e)).bind _)=_
   rw [VG _ _ (NK m e) hw (by omega) rfl,AA]
   rfl
  | false =>
   rw [if_neg (by simp),if_pos (by omega),if_pos (by omega)]
   change AAl ((CS (views.getD (e-2).toNat []) (NK m e)).bind _) ((CS (views.getD (e-2).toNat []) (NK m e)).bind _)=_
   have hrl:=Iq (views.getD (e-2).toNat []) m.1
   rw [QI _ (NK m e) (by omega),AA,AA,Co _ _ (NK m e) (by show (Ck (views.getD (e-2).toNat []) m.1).length<=_; omega) (by simp),AA,AA,AA,ow]
   exact ow)
 cases hb:m.2.2.2.1 with
 | true=>rw [if_pos rfl,J1,Bool.true_and]
 | false=>rw [if_neg (by simp),J1,Bool.false_and])
theorem jB (id:Int) (views:List (List Int)) (hi:1<=id/\id<=6) (hv:VL views):P2 id views=some (IE id views,true):=qU (by
 have hvl:=hv.len
 have g:=hv.get (i:=0) (by omega)
 unfold ZU
 rw [IC,AA,if_pos (by rw [<- Bool.decide_and,decide_eq_true hi]; rfl),HJ hv,AA,if_neg (by simp)]
 refine il ?_
 unfold Sq
 rw [show views.getD (0:Int).toNat ([]:List Int)=views.getD 0 [] from rfl,gZ _ _ (by unfold maxLen; omega),AA]
 repeat rw [if_pos (by omega)]
 rfl)

theorem S7 (x:List (List Int)) (h:x.length<=1000) (ho:∀ a∈x,a.length<=1000):Kk x=some x:=qT (by
 have key:=Jy (n:=x.length) (P:=fun i=>Hi x (x.length:Int) (i:Int) (x.take i)=some x) (So (by
  unfold LJ
  rw [if_neg (by simp),List.take_length])) (fun i hi ih=>So (by
  unfold LJ
  have hb:=ho x[i] (BC hi)
  simp only [show ((i:Int)<(x.length:Int)) from by omega,decide_true,if_true,show (0:Int)<=(i:Int) from by omega,Ab,AW hi,AO (show i<9223372036854775807 by omega)]
  rw [C6 (by omega),AA,if_pos (by simp; omega),List.take_append_getElem]
  exact ih)) 0 (by omega)
 unfold ZT
 exact key)
theorem jC (g:Aj) (k:Nat) (hg:RY g k) (hk:k<=10000):Kj g=some g:=qF (by
 have hvl:=hg.views.len
 have hc:=hg.clen
 have hf:=hg.flen
 have h6:=hg.six
 unfold ZQ
 rw [S7 g.1 (by omega) (fun a ha=>by have:=hg.views.view ha; omega),AA,MT (by omega),AA]
 have key2:∀ a b c d e f h k,FF g.2.2.1 (g.2.2.1.length:Int) ((0:Nat):Int) a b c d e f h k g.2.1 [] g.2.2.2 g.1=some g:=by
  intro a b c d e f h k
  have key':=Jy (n:=g.2.2.1.length) (P:=fun i=>FF g.2.2.1 (g.2.2.1.length:Int) (i:Int) a b c d e f h k g.2.1 (g.2.2.1.take i) g.2.2.2 g.1=some g) (Sm (by
   unfold LH
   rw [if_neg (by simp),List.take_length])) (fun i hi ih=>Sm (by
   unfold LH
   have hm:=NE (hg.fly _ (BC hi)).items
   have hz:g.2.2.1.getD i ((0:Int),(0:Int),(0:Int),(0:Int),(0:Int),([]:List Ah))=g.2.2.1[i]:=AW hi
   simp only [show ((i:Int)<(g.2.2.1.length:Int)) from by omega,decide_true,if_true,show (0:Int)<=(i:Int) from by omega,Ab,hz,AO (show i<9223372036854775807 by omega)]
   rw [PA _ (by omega),AA,if_pos (by simp; omega),List.take_append_getElem]
   exact ih)) 0 (by omega)
  exact key'
 have key0:∀ a b c d e f h,FH g.2.1 (g.2.1.length:Int) ((0:Nat):Int) a b g.2.2.1 c d e f h [] [] g.2.2.2 g.1=some g:=by
  intro a b c d e f h
  have key':=Jy (n:=g.2.1.length) (P:=fun i=>FH g.2.1 (g.2.1.length:Int) (i:Int) a b g.2.2.1 c d e f h (g.2.1.take i) [] g.2.2.2 g.1=some g) (Sn (by
   unfold LI
   rw [if_neg (by simp),List.take_length]
   refine ij ?_
   unfold Sl
   exact key2 _ _ _ _ _ _ _ _)) (fun i hi ih=>Sn (by
   unfold LI
   have hm:=(hg.mem i (by omega)).1
   unfold Cc at hm
   rw [AW hi] at hm
   have hz:g.2.1.getD i ((0:Int),(0:Int),false,false,false,false,([]:List Int),([]:List Ah),(0:Int),(0:Int),(0:Int),(0:Int),(U,U,(0:Int)),([]:List Int))=g.2.1[i]:=AW hi
   simp only [show ((i:Int)<(g.2.1.length:Int)) from by omega,decide_true,if_true,show (0:Int)<=(i:Int) from by omega,Ab,hz,hm.icopy,AA,AO (show i<9223372036854775807 by omega)]
   rw [if_pos (by simp; omega),List.take_append_getElem]
   exact ih)) 0 (by omega)
  exact key'
 exact key0 _ _ _ _ _ _ _)
theorem oc {views:List (List Int)} (hv:VL views):Rk views=some (Ar views,true):=s_ (by
 have hvl:=hv.len
 unfold cS
 rw [HJ hv,AA,if_neg (by simp),S7 views (by omega) (fun a ha=>by have:=hv.view ha; omega),AA]
 have step:∀ (i:Nat) (a:_) (b:_) (c:_) (d:_) (l:List AI) r,1<=i->i<=6->l.length<=6->GB views ((i+1:Nat):Int) a b c d (l++[IE (i:Int) views]) [] [] views=some r->GB views (i:Int) a b c d l [] [] views=some r:=by
  intro i a b c d l r h1 h6 hl hr
  refine Ur ?_
  unfold Mk
  rw [if_pos (by simp; omega),jB _ _ (by omega) hv,AA,if_pos (by simp; omega),AO (show i<9223372036854775807 by omega)]
  exact hr
 refine step 1 _ _ _ _ _ _ (by omega) (by omega) (by simp) ?_
 refine step 2 _ _ _ _ _ _ (by omega) (by omega) (by simp) ?_
 refine step 3 _ _ _ _ _ _ (by omega) (by omega) (by simp) ?_
 refine step 4 _ _ _ _ _ _ (by omega) (by omega) (by simp) ?_
 refine step 5 _ _ _ _ _ _ (by omega) (by omega) (by simp) ?_
 refine step 6 _ _ _ _ _ _ (by omega) (by omega) (by simp) ?_
 refine Ur ?_
 unfold Mk
 rw [if_neg (by decide)]
 rfl)
theorem Fd {k:Nat} (id:Int) (g:Aj) (ms:RY g k) (hi:1<=id/\id<=6):CH id g=some (id-1,g):=im (by
 have h6:=ms.six
 have step:∀ j (hj:j<6),I9 (g.2.1.getD j ((0:Int),(0:Int),false,false,false,false,([]:List Int),([]:List Ah),(0:Int),(0:Int),(0:Int),(0:Int),(U,U,(0:Int)),([]:List Int))) id=some ((j:Int)+1==id):=fun j hj=>dd (by
  unfold PW
  have:=(ms.mem j hj).2
  unfold Cc at this
  change some ((g.2.1.getD j Ln).1==id)=_
  rw [this])
 have key:∀ (d j:Nat),j+d=5->(j:Int)+1<=id->BY g.2.1 id (g.2.1.length:Int) (j:Int)=some (id-1):=by
  intro d
  induction d with
  | zero =>
   intro j hj hle
   refine DS ?_
   unfold CC
   rw [if_pos (by simp; omega),if_pos (by omega),if_pos (by omega),Ab,step j (by omega),AA,if_pos (by simp; omega)]
   congr 1; omega
  | succ d ih =>
   intro j hj hle
   refine DS ?_
   unfold CC
   rw [if_pos (by simp; omega),if_pos (by omega),if_pos (by omega),Ab,step j (by omega),AA]
   by_cases e:(j:Int)+1=id
   ·rw [if_pos (by simpa using e)]
    congr 1; omega
   ·rw [if_neg (by simpa using e),AO (by omega)]
    exact ih (j+1) (by omega) (by omega)
 unfold Sr
 rw [show CY g.2.1 id=some (id-1) from In (by
  unfold D3
  exact key 5 0 rfl (by omega)),AA])
theorem KS (told:List Bv) (said:List DU) (at_:Int) (g:Aj) (hf:g.2.2.1.length+told.length<=68719476736) (hc:g.2.2.2.length<=68719476736) (hs:rH said) (hd:∀ c∈g.2.2.2,c.2.2.2.2.1=-1\/0<=c.2.2.2.2.1) :
  Gw told said at_ g=some (g.1,g.2.1,g.2.2.1++told,said.foldl (Iw at_) g.2.2.2):=nu (by
 have hsl:=hs.1
 unfold XQ
 rw [if_pos hf]
 have fin:∀ (n:Nat) (cs:List O6),n=said.length->Cz at_ said (said.length:Int) (n:Int) g.1 g.2.1 (g.2.2.1++told) cs=some (g.1,g.2.1,g.2.2.1++told,cs):=fun n cs hn=>RK (by
  unfold KM
  rw [if_neg (by simp; omega)])
 match said,hs,hsl,fin with
 | [],_,_,fin=>exact fin 0 _ rfl
 | [s],hs,_,fin =>
  have h0:=(hs.2 s (by simp)).1
  refine RK ?_
  unfold KM
  have wl:IntKind.i64.wrap ((g.2.2.2.length:Int)-1)=(g.2.2.2.length:Int)-1:=Aa (by omega)
  rw [if_pos (by simp),if_pos (by omega),if_pos (by simp)]
  change ((Av s.1 0 (IntKind.i64.wrap ((g.2.2.2.length:Int)-1))).bind _)=_
  rw [BI,AA,wl,Aa (show -9223372036854775808<=(0:Int)+1/\(0:Int)+1<=9223372036854775807 by omega)]
  show _=some (g.1,g.2.1,g.2.2.1++told,Iw at_ g.2.2.2 s)
  have f1:=fun cs=>fin 1 cs rfl
  by_cases c1:s.1>=(g.2.2.2.length:Int)
  ·rw [if_pos (by rw [<- Bool.decide_and,decide_eq_false (by omega)]; rfl)]
   have:Iw at_ g.2.2.2 s=g.2.2.2:=by unfold Iw; rw [if_pos (by simp [c1])]
   rw [this]
   exact f1 _
  ·rw [if_neg (by rw [<- Bool.decide_and,decide_eq_true (by omega)]; simp)]
   change (if 0<=s.1 then (if s.1<(g.2.2.2.length:Int) then (if ((g.2.2.2.getD s.1.toNat Fb).2.2.2.2.1 != -1)=true then _ else _) else _) else _)=_
   rw [if_pos h0,if_pos (by omega)]
   have hcl:s.1.toNat<g.2.2.2.length:=by omega
   have hdd:=hd (g.2.2.2.getD s.1.toNat Fb) (by rw [AW hcl]; exact BC _)
   by_cases c2:(g.2.2.2.getD s.1.toNat Fb).2.2.2.2.1>=0
   ·rw [if_pos (by simp only [bne_iff_ne,ne_eq]; omega)]
    have:Iw at_ g.2.2.2 s=g.2.2.2:=by unfold Iw; rw [if_pos (by rw [decide_eq_true c2,Bool.or_true])]
    rw [this]
    exact f1 _
   ·rw [if_neg (by simp only [bne_iff_ne,ne_eq]; omega)]
    have e:Iw at_ g.2.2.2 s=g.2.2.2.set s.1.toNat (aD at_ s (g.2.2.2.getD s.1.toNat Fb)):=by unfold Iw; rw [if_neg (by rw [decide_eq_false c1,decide_eq_false c2]; simp)]
    rw [e]
    refine fu ?_
    unfold RJ
    have hz2:∀ (l:List O6),l.getD s.1.toNat ((0:Int),U,U,(0:Int),(0:Int),(0:Int),(0:Int),(0:Int),U)=l.getD s.1.toNat Fb:=fun l=>rfl
    have hz3:([s]:List DU).getD (0:Int).toNat ((0:Int),(0:Int),(0:Int),U,U,(0:Int))=s:=rfl
    simp only [hz3,hz2,AAV hcl,List.set_set,List.length_set]
    rw [if_pos h0,if_pos (by omega),Aa (show -9223372036854775808<=(0:Int)+1/\(0:Int)+1<=9223372036854775807 by omega)]
    unfold aD
    by_cases c3:(g.2.2.2.getD s.1.toNat Fb).1=2
    ·rw [if_pos (show ((g.2.2.2.getD s.1.toNat Fb).1==2)=true by simpa using c3),if_pos (show ((g.2.2.2.getD s.1.toNat Fb).1==2)=true by simpa using c3)]
     exact f1 _
    ·rw [if_neg (show ¬ ((g.2.2.2.getD s.1.toNat Fb).1==2)=true by simpa using c3),if_neg (show ¬ ((g.2.2.2.getD s.1.toNat Fb).1==2)=true by simpa using c3)]
     exact f1 _
 | _::_::_,_,hsl,_=>simp at hsl)

theorem RY.call {g:Aj} {k:Nat} (h:RY g k) (at_:Int) (e:Ax):RY (O7 g at_ e) (k+1) :=
 ⟨h.views,h.six,h.mem,h.fly,by have:=h.flen; show g.2.2.1.length<=_; omega,by have:=h.clen; simp only [O7,List.length_append,List.length_cons,List.length_nil]; omega⟩
theorem du (at_:Int) (e:Ax) (g:Aj) (k:Nat) (hg:RY g k) (hk:k<=1000) (h3:V3 g) (hn:1<=e.2.1/\e.2.1<=6):MN e at_ g=some ((LU g at_ e).1==0,(LU g at_ e).2):=kq (by
 have hc:=hg.clen
 have hf:=hg.flen
 have h6:=hg.six
 have hgc:=hg.call at_ e
 have h3c:=h3.call at_ e
 obtain ⟨m1,m2⟩:=hg.mem (e.2.1-1).toNat (by omega)
 have hb:=aB (op:=e.2.2.2.1) (call:=(g.2.2.2.length:Int)) (key:=e.2.2.2.2.1) (val:=e.2.2.2.2.2) m1 hg.views
 unfold Ux LU
 rw [if_pos (by simp; omega)]
 change ((CH e.2.1 (O7 g at_ e)).bind _)=_
 rw [Fd e.2.1 _ hgc hn,AA]
 change (if 0<=e.2.1-1 then (if e.2.1-1<(g.2.1.length:Int) then ((TK (Cc g (e.2.1-1).toNat) g.1 e.2.2.2.1 (g.2.2.2.length:Int) e.2.2.2.2.1 e.2.2.2.2.2).bind _) else none) else none)=_
 rw [if_pos (by omega),if_pos (by omega),tz _ _ _ _ _ _ m1 hg.views (h3.mem _ (by omega)),AA]
 cases hq:(DY (Cc g (e.2.1-1).toNat) g.1 e.2.2.2.1 (g.2.2.2.length:Int) e.2.2.2.2.1 e.2.2.2.2.2).2.2.2 with
 | false=>rfl
 | true =>
  have hid:=hb.id hq
  have htl:=hb.tlen
  rw [if_neg (by simp),if_pos rfl]
  change (if 0<=e.2.1-1 then (if e.2.1-1<(g.2.1.length:Int) then _ else none) else none)=_
  rw [if_pos (by omega),if_pos (by omega)]
  dsimp only
  have:=KS (DY (Cc g (e.2.1-1).toNat) g.1 e.2.2.2.1 (g.2.2.2.length:Int) e.2.2.2.2.1 e.2.2.2.2.2).2.1 (DY (Cc g (e.2.1-1).toNat) g.1 e.2.2.2.1 (g.2.2.2.length:Int) e.2.2.2.2.1 e.2.2.2.2.2).2.2.1 at_
   ((O7 g at_ e).1,(O7 g at_ e).2.1.set (e.2.1-1).toNat (DY (Cc g (e.2.1-1).toNat) g.1 e.2.2.2.1 (g.2.2.2.length:Int) e.2.2.2.2.1 e.2.2.2.2.2).1,(O7 g at_ e).2.2.1,(O7 g at_ e).2.2.2) (by show g.2.2.1.length+_<=_; omega) (by simp only [O7,List.length_append,List.length_cons,List.length_nil]; omega) hb.said h3c.calls
  rw [this,AA]
  unfold Fc
  rw [hid,m2,show (((e.2.1-1).toNat:Int)+1-1).toNat=(e.2.1-1).toNat by omega]
  rfl)
theorem ADh {m:AI} {views:List (List Int)} {e:Int} (h:V1 views m):AAZ m views e=Fa m views e:=by
 unfold AAZ Fa
 split
 ·cases hb:m.2.2.2.1 with
  | false=>rfl
  | true =>
   have hv:=(h.view hb).2
   by_cases he:m.2.1=e-1
   ·rw [show (e-2).toNat=(m.2.1-1).toNat by omega,hv,show (m.2.1==e-1)=true by simpa using he]
    rfl
   ·rw [show (m.2.1==e-1)=false by simpa using he]
    rfl
 ·rfl
theorem dv (at_:Int) (e:Ax) (g:Aj) (k:Nat) (hg:RY g k) (hk:k<=1000) (h3:V3 g) (hn:1<=e.2.1/\e.2.1<=6):MO e at_ g=some ((gY g at_ e.2.1).1==0,(gY g at_ e.2.1).2):=kt (by
 have hc:=hg.clen
 have hf:=hg.flen
 have h6:=hg.six
 have hvl:=hg.views.len
 obtain ⟨m1,m2⟩:=hg.mem (e.2.1-1).toNat (by omega)
 have hep:=m1.ep
 have h1:=h3.mem (e.2.1-1).toNat (by omega)
 unfold Uy gY
 rw [Fd e.2.1 g hg hn,AA]
 change (if 0<=e.2.1-1 then (if e.2.1-1<(g.2.1.length:Int) then EI at_ (e.2.1-1) (IntKind.i64.wrap ((Cc g (e.2.1-1).toNat).2.1+1)) g.1 g.2.1 g.2.2.1 g.2.2.2 e else none) else none)=_
 rw [if_pos (by omega),if_pos (by omega),Aa (by omega)]
 have key:∀ (n:Nat) (ep:Int),1<=ep->ep+(n:Int)=(g.1.length:Int)+1->EI at_ (e.2.1-1) ep g.1 g.2.1 g.2.2.1 g.2.2.2 e=some ((IF g at_ (Cc g (e.2.1-1).toNat) e.2.1 n ep).1==0,(IF g at_ (Cc g (e.2.1-1).toNat) e.2.1 n ep).2):=by
  intro n
  induction n with
  | zero =>
   intro ep h1 h2
   refine JD ?_
   unfold GM
   rw [if_neg (by simp; omega)]
   rfl
  | succ n ih =>
   intro ep hp1 hp2
   refine JD ?_
   unfold GM IF
   have we:IntKind.i64.wrap (ep-1)=ep-1:=Aa (by omega)
   have g1:=hg.views.get (i:=(ep-1).toNat) (by omega)
   rw [if_pos (by simp; omega),we,if_pos (by omega),if_pos (by omega),if_pos (by omega),if_pos (by omega)]
   change (if ((g.1.getD (ep-1).toNat []).getD 0 0 != e.2.1)=true then _ else _)=_
   by_cases hq:((g.1.getD (ep-1).toNat []).getD 0 0 != e.2.1)=true
   ·rw [if_pos hq,if_pos hq,Aa (by omega)]
    exact ih (ep+1) (by omega) (by omega)
   ·rw [if_neg hq,if_neg hq,if_pos (by omega),if_pos (by omega)]
    change ((TL (Cc g (e.2.1-1).toNat) g.1 ep).bind _)=_
    rw [t6 _ _ _ m1 hg.views,AA,ADh h1]
    cases hb:(Fa (Cc g (e.2.1-1).toNat) g.1 ep).2.2 with
    | false=>rfl
    | true =>
     have ha:=aC (e:=ep) m1 hg.views hb
     have hal:=ha.2.2.2
     rw [if_pos rfl,if_pos rfl,if_pos (by omega),if_pos (by omega)]
     dsimp only
     have:=KS (Fa (Cc g (e.2.1-1).toNat) g.1 ep).2.1 [] at_ (g.1,g.2.1.set (e.2.1-1).toNat (Fa (Cc g (e.2.1-1).toNat) g.1 ep).1,g.2.2.1,g.2.2.2) (by show g.2.2.1.length+_<=_; omega) (by show g.2.2.2.length<=_; omega) GI h3.calls
     rw [this,AA]
     unfold Fc
     rw [ha.2.1,m2,show (((e.2.1-1).toNat:Int)+1-1).toNat=(e.2.1-1).toNat by omega]
     rfl
 by_cases hle:(Cc g (e.2.1-1).toNat).2.1<=(g.1.length:Int)
 ·exact key _ _ (by omega) (by omega)
 ·have e0:((g.1.length:Int)-(Cc g (e.2.1-1).toNat).2.1).toNat=0:=by omega
  rw [e0]
  refine JD ?_
  unfold GM
  rw [if_neg (fun h=>hle (by have:=of_decide_eq_true h; omega))]
  rfl)
def ABY (g:Aj) (i:Nat) (at_:Int):Aj:=Fc (O8 g i)
 (EB (Cc g ((g.2.2.1.getD i D5).2.2.1-1).toNat) g.1 (g.2.2.1.getD i D5)).1 (EB (Cc g ((g.2.2.1.getD i D5).2.2.1-1).toNat) g.1 (g.2.2.1.getD i D5)).2.1 (EB (Cc g ((g.2.2.1.getD i D5).2.2.1-1).toNat) g.1 (g.2.2.1.getD i D5)).2.2 at_
theorem aF (at_:Int) (i:Nat) (g:Aj) (k:Nat) (hg:RY g k) (hk:k<=10000) (h3:V3 g) (hi:i<g.2.2.1.length):KD (i:Int) at_ g=some (ABY g i at_):=fw (by
 have hc:=hg.clen
 have hf:=hg.flen
 have h6:=hg.six
 have hmem:g.2.2.1.getD i D5∈g.2.2.1:=by rw [AW hi]; exact BC _
 have hx:=hg.fly _ hmem
 have hv2:=h3.fly _ hmem
 unfold RL ABY
 rw [if_pos (by omega),if_pos (by omega),AO (by omega)]
 change ((Bw g.2.2.1 (i:Int) ((i+1:Nat):Int)).bind fun y1=>((CH (g.2.2.1.getD i D5).2.2.1 (g.1,g.2.1,y1,g.2.2.2)).bind _))=_
 rw [GV (by omega) (by omega),AA]
 have hto:=hx.to
 generalize hxx:g.2.2.1.getD i D5=x at *
 obtain ⟨m1,m2⟩:=hg.mem (x.2.2.1-1).toNat (by omega)
 have hho:=aA (x:=x) m1 hg.views
 have hil:=NE hx.items
 change ((CH x.2.2.1 (O8 g i)).bind _)=_
 rw [Fd x.2.2.1 (O8 g i) (hg.less i) hto,AA]
 change (if decide (x.2.2.1-1>=0)=true then (if 0<=x.2.2.1-1 then (if x.2.2.1-1<(g.2.1.length:Int) then ((N9 (Cc g (x.2.2.1-1).toNat) g.1 (g.2.2.1.getD (i:Int).toNat D5)).bind _) else none) else none) else _)=_
 rw [Ab,hxx,if_pos (by simp; omega),if_pos (by omega),if_pos (by omega),ob _ _ _ m1 hg.views (by omega),AA]
 have hhi:ge (Cc g (x.2.2.1-1).toNat) g.1 x=EB (Cc g (x.2.2.1-1).toNat) g.1 x:=by
  unfold ge
  rw [if_pos (hU.2 hx),AE4 hv2.inst]
 rw [hhi]
 change (if 0<=x.2.2.1-1 then (if x.2.2.1-1<(g.2.1.length:Int) then _ else none) else none)=_
 rw [if_pos (by omega),if_pos (by omega)]
 dsimp only
 have htl:=hho.tlen
 have:=KS (EB (Cc g (x.2.2.1-1).toNat) g.1 x).2.1 (EB (Cc g (x.2.2.1-1).toNat) g.1 x).2.2 at_
  ((O8 g i).1,(O8 g i).2.1.set (x.2.2.1-1).toNat (EB (Cc g (x.2.2.1-1).toNat) g.1 x).1,(O8 g i).2.2.1,(O8 g i).2.2.2) (by
   have:(O8 g i).2.2.1.length<=g.2.2.1.length:=by simp only [O8,List.length_append,List.length_take,List.length_drop]; omega
   show (O8 g i).2.2.1.length+_<=_; omega) (by show g.2.2.2.length<=_; omega) hho.said h3.calls
 rw [this,AA]
 unfold Fc
 rw [hho.id,m2,show (((x.2.2.1-1).toNat:Int)+1-1).toNat=(x.2.2.1-1).toNat by omega])
theorem dw (at_:Int) (e:Ax) (g:Aj) (k:Nat) (hg:RY g k) (hk:k<=1000) (h3:V3 g) (he:IG e=true):IY e at_ g=some ((r8 g at_ e).1==0,(r8 g at_ e).2):=kb (by
 have hn:=hY he
 have h6:=hg.six
 have hf:=hg.flen
 unfold Us r8
 by_cases h1:e.1=1
 ·rw [if_pos (by simpa using h1),if_pos h1,du at_ e g k hg hk h3 (by omega)]; rfl
 rw [if_neg (by simpa using h1),if_neg h1]
 by_cases h5:e.1=5
 ·rw [if_pos (by simpa using h5),if_pos h5,dv at_ e g k hg hk h3 (by omega)]; rfl
 rw [if_neg (by simpa using h5),if_neg h5]
 by_cases h7:e.1=6
 ·obtain ⟨m1,m2⟩:=hg.mem (e.2.1-1).toNat (by omega)
  rw [if_pos (by simpa using h7),if_pos h7,Fd e.2.1 g hg (by omega),AA]
  change (if 0<=e.2.1-1 then (if e.2.1-1<(g.2.1.length:Int) then ((Wd (Cc g (e.2.1-1).toNat)).bind _) else none) else none)=_
  rw [if_pos (by omega),if_pos (by omega),yZ,AA]
  change (if 0<=e.2.1-1 then (if e.2.1-1<(g.2.1.length:Int) then _ else none) else none)=_
  rw [if_pos (by omega),if_pos (by omega)]
  unfold Fc
  have:((dJ (Cc g (e.2.1-1).toNat)).1-1).toNat=(e.2.1-1).toNat:=by
   show ((Cc g (e.2.1-1).toNat).1-1).toNat=_
   rw [m2]; omega
  rw [this,List.append_nil]
  rfl
 rw [if_neg (by simpa using h7),if_neg h7]
 have hm:KC e at_ g=some ((jA g at_ e).1==0,(jA g at_ e).2):=fh (by
  unfold RG jA
  by_cases h0:g.2.2.1=[]
  ·rw [if_pos (by rw [h0]; rfl),if_pos h0]; rfl
  have hl:0<g.2.2.1.length:=by
   cases hq:g.2.2.1 with
   | nil=>exact absurd hq h0
   | cons a l=>simp
  have hem:Int.tmod e.2.2.1 (g.2.2.1.length:Int)=e.2.2.1 % (g.2.2.1.length:Int):=Int.tmod_eq_emod_of_nonneg (by omega)
  have hlt:(e.2.2.1 % (g.2.2.1.length:Int)).toNat<g.2.2.1.length:=by
   have h1:=Int.emod_lt_of_pos e.2.2.1 (show (0:Int)<(g.2.2.1.length:Int) by omega)
   have h2:=Int.emod_nonneg e.2.2.1 (show (g.2.2.1.length:Int)≠0 by omega)
   omega
  obtain ⟨i,hi⟩:∃ i:Nat,e.2.2.1 % (g.2.2.1.length:Int)=(i:Int):=⟨(e.2.2.1 % (g.2.2.1.length:Int)).toNat,by
   have h2:=Int.emod_nonneg e.2.2.1 (show (g.2.2.1.length:Int)≠0 by omega)
   omega⟩
  rw [if_neg (by simp only [beq_iff_eq]; omega),if_neg (by omega),if_neg h0,hem,hi]
  rw [hi,Ab] at hlt
  simp only [Ab]
  by_cases k2:e.1=2
  ·rw [if_pos (by simpa using k2),if_neg (by omega),if_neg (by omega),aF at_ i g k hg (by omega) h3 hlt]
   rfl
  rw [if_neg (by simpa using k2)]
  by_cases k3:e.1=3
  ·rw [if_pos (by simpa using k3),if_neg (by omega),if_pos k3,AO (by omega),GV (by omega) (by omega)]
   rfl
  have k4:e.1=4:=by omega
  have hmem:g.2.2.1.getD i D5∈g.2.2.1:=by rw [AW hlt]; exact BC _
  have hil:=NE (hg.fly _ hmem).items
  rw [if_neg (by simpa using k3),if_pos (by simpa using k4),if_pos k4,if_pos (by omega),if_pos (by omega)]
  change ((Hw (g.2.2.1.getD i D5)).bind _)=_
  rw [PA _ (by omega),AA,if_pos (by simp; omega)]
  rfl)
 rw [hm]
 rfl)
theorem Xt {views:List (List Int)} {events:List Ax} (hv:VL views) (hl:events.length<=70) (he:∀ e∈events,IG e=true) :
  Lz views events=some ((Fv 0 events (Ar views) []).1,(Fv 0 events (Ar views) []).2,true):=sq (by
 have hg:=TV hv
 obtain ⟨r1,r2,r3⟩:=oS events 0 (Ar views) [] hg (by omega) he
 unfold cL
 rw [oc hv,AA,if_pos (by rfl),if_neg (by simp; omega)]
 refine kK ?_
 unfold UW
 have codes:∀ (g:Aj) (a:Int) (e:Ax),IG e=true->(r8 g a e).1=0\/(r8 g a e).1=1:=by
  intro g a e he
  have hfa:∀ (m:AI) (nd:Int) (n:Nat) (ep:Int),(IF g a m nd n ep).1=0\/(IF g a m nd n ep).1=1:=by
   intro m nd n
   induction n with
   | zero=>intro ep; exact .inr rfl
   | succ n ih =>
    intro ep
    unfold IF
    split
    ·exact ih _
    ·split
     ·exact .inl rfl
     ·exact .inr rfl
  unfold r8
  split
  ·unfold LU; split
   ·exact .inl rfl
   ·exact .inr rfl
  ·split
   ·exact hfa _ _ _ _
   ·split
    ·exact .inl rfl
    ·unfold jA
     split
     ·exact .inr rfl
     ·split
      ·exact .inl rfl
      ·split
       ·exact .inl rfl
       ·exact .inl rfl
 have L3:∀ a b c d,F7 events (events.length:Int) ((0:Nat):Int) a b c d (Ar views).2.1 (Ar views).2.2.1 (Ar views).2.2.2 (Ar views).1 []=some ((Fv 0 events (Ar views) []).1,(Fv 0 events (Ar views) []).2,true):=by
  intro a b c d
  have key:=Jy (n:=events.length) (P:=fun i=>∀ (g:Aj) (cs:List Int),RY g i->V3 g->cs.length=i->Fv i (events.drop i) g cs=Fv 0 events (Ar views) []->F7 events (events.length:Int) (i:Int) a b c d g.2.1 g.2.2.1 g.2.2.2 g.1 cs=some ((Fv 0 events (Ar views) []).1,(Fv 0 events (Ar views) []).2,true)) (fun g cs hgi h3 hcs hr=>UX (by
   unfold MX
   rw [if_neg (by simp)]
   change ((Kj g).bind _)=_
   rw [jC g events.length hgi (by omega),AA]
   rw [List.drop_eq_nil_of_le (Nat.le_refl _)] at hr
   rw [<- hr]
   rfl)) (fun i hi ih g cs hgi h3 hcs hr=>UX (by
   unfold MX
   obtain ⟨d2,_⟩:=hgi.event (at_:=(i:Int)) (he _ (BC hi))
   have hz:events.getD i ((0:Int),(0:Int),(0:Int),(0:Int),U,U)=events[i]:=AW hi
   simp only [show ((i:Int)<(events.length:Int)) from by omega,decide_true,if_true,show (0:Int)<=(i:Int) from by omega,Ab,hz,AO (show i<9223372036854775807 by omega)]
   change ((IY events[i] (i:Int) g).bind _)=_
   rw [dw (i:Int) events[i] g i hgi (by omega) h3 (he _ (BC hi)),AA]
   have hcode:X4 ((r8 g (i:Int) events[i]).1==0)=some (r8 g (i:Int) events[i]).1:=yL (by
    unfold jP
    rcases codes g (i:Int) events[i] (he _ (BC hi)) with q | q<;>rw [q]<;>rfl)
   dsimp only
   rw [hcode,AA,if_pos (by simp; omega)]
   refine ih _ _ d2 (h3.event hgi (by omega) (he _ (BC hi))) (by simp; omega) ?_
   rw [Am hi] at hr
   exact hr)) 0 (by omega) (Ar views) [] hg (V3.new hv) rfl rfl
  exact key
 have L1:∀ a b c d,F8 events events (events.length:Int) ((0:Nat):Int) a b c d (Ar views).2.1 (Ar views).2.2.1 (Ar views).2.2.2 (Ar views).1=some ((Fv 0 events (Ar views) []).1,(Fv 0 events (Ar views) []).2,true):=by
  intro a b c d
  refine Jy (n:=events.length) (P:=fun i=>F8 events events (events.length:Int) (i:Int) a b c d (Ar views).2.1 (Ar views).2.2.1 (Ar views).2.2.2 (Ar views).1=some ((Fv 0 events (Ar views) []).1,(Fv 0 events (Ar views) []).2,true)) (UY (by
   unfold MY
   rw [if_neg (by simp)]
   refine kJ ?_
   unfold UV
   exact L3 _ _ _ _)) (fun i hi ih=>UY (by
   unfold MY
   have hz:events.getD i ((0:Int),(0:Int),(0:Int),(0:Int),U,U)=events[i]:=AW hi
   simp only [show ((i:Int)<(events.length:Int)) from by omega,decide_true,if_true,show (0:Int)<=(i:Int) from by omega,Ab,hz,AO (show i<9223372036854775807 by omega)]
   rw [Xm,he _ (BC hi),AA,if_neg (by simp)]
   exact ih)) 0 (by omega)
 exact L1 _ _ _ _)

def SmM (m:AI):Prop:=m.2.2.2.2.2.2.2.2.2.2.2.2.1.2.1.size<=20
def SmS (l:List DU):Prop:=∀ s∈l,s.2.2.2.2.1.size<=20
theorem QY:SmS []:=fun s hs=>by cases hs
theorem Es:ByteArray.empty.size<=20:=by decide
theorem AAa {x:List Ah} (h:BN x=true) (k:ByteArray):(DX x k).2.1.size<=20:=by
 unfold DX
 cases hf:x.find? fun a=>a.1.toList==k.toList with
 | none=>exact Es
 | some a =>
  have h1:=(IL.1 h).1 a (List.mem_of_find?_eq_some hf)
  simp only [MD,AE,decide_eq_true_eq] at h1
  show a.2.1.size<=20
  omega
theorem od {m:AI} (hi:BN m.2.2.2.2.2.2.2.1=true) (h:SmM m):SmM (Ee m).2/\SmS (Ee m).1:=by
 unfold Ee
 split
 ·refine ⟨Es,fun s hs=>?_⟩
  simp only [Bq] at hs
  rw [hs]
  exact h
 ·refine ⟨Es,fun s hs=>?_⟩
  simp only [Bq] at hs
  rw [hs]
  exact AAa hi _
theorem AAb {m:AI} (hi:BN m.2.2.2.2.2.2.2.1=true) (h:SmM m) (f:Int):SmM (E7 m f).1/\SmS (E7 m f).2.2:=by
 unfold E7
 split
 ·exact od (m:=zA m f) hi h
 ·exact ⟨h,QY⟩
theorem ADi {m:AI} (hi:BN m.2.2.2.2.2.2.2.1=true) (h:SmM m) (view:List Int) (x:Bv):SmM (bC m view x).1/\SmS (bC m view x).2.2:=by
 have hr:=AAb hi h x.2.1
 unfold bC
 generalize E7 m x.2.1=r at hr ⊢
 generalize D4 m.2.2.2.2.2.2.2.1 (x.2.2.2.2.2.getD 0 (U,U,(0:Int)))=q
 (repeat' split)<;>first | exact hr | exact ⟨h,QY⟩ | exact ⟨Es,QY⟩
theorem ACF {m:AI} (hi:BN m.2.2.2.2.2.2.2.1=true) (h:SmM m) (views:List (List Int)) (x:Bv):SmM (EB m views x).1/\SmS (EB m views x).2.2:=by
 have hr:=ADi hi h (views.getD (m.2.1-1).toNat []) x
 unfold EB
 generalize bC m (views.getD (m.2.1-1).toNat []) x=r at hr ⊢
 (repeat' split)<;>first | exact hr | exact ⟨h,QY⟩ | exact ⟨Es,QY⟩
theorem ABZ {m:AI} (hi:BN m.2.2.2.2.2.2.2.1=true) (views:List (List Int)) (op call:Int) (key val:ByteArray) (hv:val.size<=20):SmM (DY m views op call key val).1/\SmS (DY m views op call key val).2.2.1:=by
 have ht:SmM (Jv m (views.getD (m.2.1-1).toNat []) op call key val):=hv
 unfold DY
 split
 ·split
  ·exact ⟨Es,QY⟩
  ·unfold VD
   split
   ·exact od (m:=Jv m (views.getD (m.2.1-1).toNat []) op call key val) hi ht
   ·exact ⟨ht,QY⟩
 ·exact ⟨Es,QY⟩
theorem ABa {m:AI} (views:List (List Int)) (e:Int):SmM (Fa m views e).1:=by
 unfold Fa
 (repeat' split)<;>exact Es
def SmC (c:O6):Prop:=(c.1=1\/c.1=2)/\c.2.1.size<=12/\c.2.2.2.2.2.2.2.2.size<=20
structure xg (g:Aj):Prop where
 mem:∀ i,i<6->SmM (Cc g i)
 calls:∀ c∈g.2.2.2,SmC c
theorem ABb {at_:Int} {s:DU} (hs:s.2.2.2.2.1.size<=20) {cs:List O6} (h:∀ c∈cs,SmC c):∀ c∈Iw at_ cs s,SmC c:=by
 unfold Iw
 split
 ·exact h
 ·intro c hc
  rcases List.mem_or_eq_of_mem_set hc with e | e
  ·exact h c e
  ·by_cases hl:s.1.toNat<cs.length
   ·have h0:=h (cs.getD s.1.toNat Fb) (by rw [AW hl]; exact BC _)
    rw [e]
    refine ⟨h0.1,h0.2.1,?_⟩
    unfold aD
    show (if _ then _ else _:ByteArray).size<=20
    split
    ·exact hs
    ·exact h0.2.2
   ·rw [List.set_eq_of_length_le (by omega)] at hc
    exact h c hc
theorem oe {at_:Int}:∀ (said:List DU) {cs:List O6},SmS said->(∀ c∈cs,SmC c)->∀ c∈said.foldl (Iw at_) cs,SmC c
 | [],_,_,h=>h
 | s::l,_,hs,h=>oe l (fun t ht=>hs t (List.mem_cons_of_mem _ ht)) (ABb (hs s (List.mem_cons_self ..)) h)
theorem xg.member {g:Aj} (h:xg g) (h6:g.2.1.length=6) {n:AI} {told:List Bv} {said:List DU} {at_:Int} {i:Nat} (hi:i<6) (hid:n.1=(i:Int)+1) (hn:SmM n/\SmS said):xg (Fc g n told said at_):=by
 refine ⟨fun j hj=>?_,oe said hn.2 h.calls⟩
 rw [xH h6 hj hid hi]
 split
 ·exact hn.1
 ·exact h.mem j hj
theorem xg.call {g:Aj} (h:xg g) (at_:Int) {e:Ax} (he:Xl e.2.2.2.1 e.2.2.2.2.1 e.2.2.2.2.2=true):xg (O7 g at_ e):=⟨h.mem,fun c hc=>by
 rcases CV.1 hc with h1 | h1
 ·exact h.calls c h1
 ·simp only [Bq] at h1
  simp only [Xl,AE,Do,decide_eq_true_eq] at he
  rw [h1]
  exact ⟨he.1.1.1,by show e.2.2.2.2.1.size<=12; omega,Es⟩⟩
theorem xg.adopt {g:Aj} {k:Nat} (h:xg g) (hg:RY g k) {at_ node:Int} (hn:1<=node/\node<=6):∀ (n:Nat) (e:Int),xg (IF g at_ (Cc g (node-1).toNat) node n e).2
 | 0,_=>h
 | n+1,e=>by
  unfold IF
  split
  ·exact xg.adopt h hg hn n (e+1)
  ·split
   ·rename_i hb
    obtain ⟨m1,m2⟩:=hg.mem (node-1).toNat (by omega)
    have hao:=aC (e:=e) m1 hg.views hb
    exact h.member hg.six (i:=(node-1).toNat) (by omega) (by rw [hao.2.1,m2]) ⟨ABa _ _,QY⟩
   ·exact h
theorem xg.event {g:Aj} {k:Nat} (h:xg g) (hg:RY g k) {at_:Int} {e:Ax} (he:IG e=true):xg (r8 g at_ e).2:=by
 have hn:=hY he
 unfold r8
 split
 ·rename_i h1
  have hask:Xl e.2.2.2.1 e.2.2.2.2.1 e.2.2.2.2.2=true:=by
   simp only [IG,AE] at he
   have:=he.2
   rwa [if_pos h1] at this
  have hval:e.2.2.2.2.2.size<=20:=by
   simp only [Xl,AE,Do,decide_eq_true_eq] at hask
   omega
  unfold LU
  split
  ·rename_i hb
   obtain ⟨m1,m2⟩:=hg.mem (e.2.1-1).toNat (by omega)
   have hbo:=aB (op:=e.2.2.2.1) (call:=(g.2.2.2.length:Int)) (key:=e.2.2.2.2.1) (val:=e.2.2.2.2.2) m1 hg.views
   exact (h.call at_ hask).member (g:=O7 g at_ e) hg.six (i:=(e.2.1-1).toNat) (by omega) (by rw [hbo.id hb,m2]) (ABZ m1.items _ _ _ _ _ hval)
  ·exact h.call at_ hask
 ·split
  ·exact h.adopt hg (by omega) _ _
  ·split
   ·obtain ⟨m1,m2⟩:=hg.mem (e.2.1-1).toNat (by omega)
    exact h.member hg.six (i:=(e.2.1-1).toNat) (by omega) m2 ⟨Es,QY⟩
   ·unfold jA
    split
    ·exact h
    ·rename_i hne
     have hl:0<g.2.2.1.length:=by
      cases hq:g.2.2.1 with
      | nil=>exact absurd hq hne
      | cons a l=>simp
     have hlt:(e.2.2.1 % (g.2.2.1.length:Int)).toNat<g.2.2.1.length:=by
      have h1:=Int.emod_lt_of_pos e.2.2.1 (show (0:Int)<(g.2.2.1.length:Int) by omega)
      have h2:=Int.emod_nonneg e.2.2.1 (show (g.2.2.1.length:Int)≠0 by omega)
      omega
     have hmem:g.2.2.1.getD (e.2.2.1 % (g.2.2.1.length:Int)).toNat D5∈g.2.2.1:=by
      rw [AW hlt]
      exact BC _
     split
     ·exact ⟨h.mem,h.calls⟩
     ·split
      ·exact ⟨h.mem,h.calls⟩
      ·have hto:=(hg.fly _ hmem).to
       generalize hx:g.2.2.1.getD (e.2.2.1 % (g.2.2.1.length:Int)).toNat D5=x at *
       obtain ⟨m1,m2⟩:=hg.mem (x.2.2.1-1).toNat (by omega)
       exact xg.member (g:=O8 g (e.2.2.1 % (g.2.2.1.length:Int)).toNat) ⟨h.mem,h.calls⟩ hg.six (i:=(x.2.2.1-1).toNat) (by omega) (by rw [(aA (x:=x) m1 hg.views).id,m2]) (ACF m1.items (h.mem _ (by omega)) _ _)
theorem xg.new (views:List (List Int)):xg (Ar views):=by
 refine ⟨fun i hi=>?_,fun x hx=>by cases hx⟩
 have h5:i=0\/i=1\/i=2\/i=3\/i=4\/i=5:=by omega
 rcases h5 with rfl | rfl | rfl | rfl | rfl | rfl<;>exact Es
theorem xg.run:∀ (es:List Ax) (n:Nat) (g:Aj) (cs:List Int),RY g n->xg g->n+es.length<=70->(∀ e∈es,IG e=true)->xg (Fv n es g cs).1
 | [],n,g,cs,_,h,_,_=>h
 | e::es,n,g,cs,hg,h,hn,he=>by
  simp only [List.length_cons] at hn
  obtain ⟨h2,_⟩:=hg.event (at_:=(n:Int)) (he e (by simp))
  exact xg.run es (n+1) _ _ h2 (h.event hg (he e (by simp))) (by omega) (fun x hx=>he x (by simp [hx]))

def Ch (l:List UInt8):ByteArray:=⟨l.toArray⟩
theorem VH (x:ByteArray):Ch x.data.toList=x:=by cases x; rfl
theorem D6 (l:List UInt8):(Ch l).data.toList=l:=rfl
theorem AS (l:List UInt8):(Ch l).size=l.length:=by simp [Ch,ByteArray.size]
theorem EM (x:ByteArray):x.size=x.data.toList.length:=by simp
theorem B9 (a b:List UInt8):Ch (a++b)=Ch a++Ch b:=by
 apply ByteArray.ext
 simp [Ch,ByteArray.data_append]
theorem ACt {a b:List UInt8} (h:Ch a=Ch b):a=b:=by
 have:=congrArg (fun x:ByteArray=>x.data.toList) h
 exact this
theorem VI (a b:ByteArray):(a.toList==b.toList)=decide (a=b):=by
 rw [Bool.eq_iff_iff,beq_iff_eq,decide_eq_true_eq]
 refine ⟨fun h=>?_,fun h=>by rw [h]⟩
 rw [ByteArray.toList_eq,ByteArray.toList_eq] at h
 cases a with
 | mk da =>
  cases b with
  | mk db=>exact congrArg ByteArray.mk (Array.toList_inj.1 h)
def QJ (p:List UInt8):List (List UInt8)->List (List UInt8)
 | []=>[p]
 | h::t=>(p++h)::t
def cut (c:UInt8):List UInt8->List (List UInt8)
 | []=>[[]]
 | b::l=>if b=c then []::cut c l else QJ [b] (cut c l)
theorem ACu (p:List UInt8) (x:List (List UInt8)):QJ p x≠[]:=by cases x<;>simp [QJ]
theorem gf (c:UInt8) (l:List UInt8):cut c l≠[]:=by
 cases l with
 | nil=>simp [cut]
 | cons b l =>
  unfold cut
  split
  ·simp
  ·exact ACu _ _
theorem og {x:List (List UInt8)} (h:x≠[]):QJ [] x=x:=by
 cases x with
 | nil=>exact absurd rfl h
 | cons a t=>rfl
theorem ADj (p q:List UInt8) (x:List (List UInt8)):QJ p (QJ q x)=QJ (p++q) x:=by cases x<;>simp [QJ]
theorem AAc {c b:UInt8} (l p:List UInt8) (h:b≠c):QJ p (cut c (b::l))=QJ (p++[b]) (cut c l):=by
 rw [cut,if_neg h,ADj]
theorem xO {c b:UInt8} (l p:List UInt8) (h:b=c):QJ p (cut c (b::l))=p::QJ [] (cut c l):=by
 rw [cut,if_pos h,og (gf c l)]
 simp [QJ]
theorem ADk {b c:UInt8} (l:List UInt8) (h:b≠c):∀ n,Go.Lib.splitK [c] 0 n (b::l)=QJ [b] (Go.Lib.splitK [c] 0 n l)
 | 0=>rfl
 | n+1=>by
  have hp:([c]:List UInt8).isPrefixOf (b::l)=false:=by simp [List.isPrefixOf,Ne.symm h]
  have hix:Go.Lib.index (b::l) [c]=if Go.Lib.index l [c]==-1 then -1 else Go.Lib.index l [c]+1:=by rw [Go.Lib.index,hp]; simp
  unfold Go.Lib.splitK
  by_cases hm:Go.Lib.index l [c]=-1
  ·rw [hm,if_pos (by decide)] at hix
   rw [hix,hm,if_pos (by decide),if_pos (by decide)]
   rfl
  ·have hge:=Go.Lib.index_ge l [c]
   obtain ⟨j,hj⟩:∃ j:Nat,Go.Lib.index l [c]=j:=⟨(Go.Lib.index l [c]).toNat,by omega⟩
   have n1:¬ ((j:Int)==-1)=true:=fun e=>by have:=beq_iff_eq.1 e; omega
   have n2:¬ ((j:Int)+1==-1)=true:=fun e=>by have:=beq_iff_eq.1 e; omega
   rw [hj,if_neg n1] at hix
   rw [hix,hj,if_neg n1,if_neg n2,show ((j:Int)+1).toNat=j+1 by omega,Ab]
   simp [QJ,Nat.add_assoc,Nat.add_comm 1,List.take_succ_cons]
theorem rM (c:UInt8):∀ l,Go.Lib.splitK [c] 0 (Go.Lib.count l [c]) l=cut c l
 | []=>by
  rw [Go.Lib.count_miss (by simp [Go.Lib.index])]
  rfl
 | b::l=>by
  by_cases h:b=c
  ·subst h
   have hix:Go.Lib.index (b::l) [b]=0:=by rw [Go.Lib.index]; simp [List.isPrefixOf]
   rw [Go.Lib.count_cons_eq,Nat.add_comm,Go.Lib.splitK,hix,if_neg (by decide),cut,if_pos rfl]
   simpa using rM b l
  ·rw [Go.Lib.count_cons_ne b c l h,ADk l h,rM c l,cut,if_neg h]
def gh (c:UInt8) (x:ByteArray):List ByteArray:=(cut c x.data.toList).map Ch
theorem LV (x:ByteArray) (c:UInt8) (h:x.size<4294967281):Ge x ⟨#[c]⟩=some (gh c x):=by
 rw [sn h rfl]
 have e:(Go.Lib.splitB ⟨#[c]⟩ 0 (Go.Lib.countB x ⟨#[c]⟩) x).map (·.data.toList)=cut c x.data.toList:=by
  rw [Go.Lib.splitB_data]
  exact rM c _
 unfold gh
 rw [<- e,List.map_map,show (Ch ∘ fun y:ByteArray=>y.data.toList)=id by funext y; exact VH y,List.map_id]
def zC (l:List UInt8) (a i:Nat):List UInt8:=(l.take i).drop a
theorem aG (l:List UInt8) (a:Nat):zC l a a=[]:=by simp [zC]
theorem xP {l:List UInt8} {a i:Nat} (ha:a<=i) (hi:i<l.length):zC l a (i+1)=zC l a i++[l[i]]:=by
 unfold zC
 rw [List.take_succ_eq_append_getElem hi,List.drop_append_of_le_length (by simp; omega)]
theorem KT (x:ByteArray) (a b:Nat):x.extract a b=Ch (zC x.data.toList a b):=by
 apply ByteArray.ext
 apply Array.ext'
 rw [Go.Lib.extract_data]
 simp [Ch,zC,List.drop_take]
theorem h_ {l:List UInt8} {a i:Nat} (ha:a<=i) (hi:i<=l.length):(zC l a i=[])↔a=i:=by
 unfold zC
 rw [List.drop_eq_nil_iff,List.length_take]
 omega
theorem Xu {x:ByteArray} {i:Nat} (h:i<x.data.toList.length):x.data.toList.getD i 0=x.data.toList[i]:=AW h
theorem AE6 {u:UInt8} {n:Nat} (hn:n<256):((u.toNat:Int)=(n:Int))↔u=UInt8.ofNat n:=by
 rw [<- UInt8.toNat_inj,UInt8.toNat_ofNat',Nat.mod_eq_of_lt hn]
 omega
theorem sB {n:Nat} (h:n<256):Dp [((n:Nat):Int)]=Ch [UInt8.ofNat n]:=by
 simp [Dp,Ch]
theorem Jw {n:Int} (h:-9223372036854775808<=n) (h1:n<=9223372036854775807):Hv n=some (Ch (Go.Lib.itoa n)):=v7 (by
 unfold fO
 rw [vw h h1]
 rfl)
theorem zD {r:Nat} (h:r<10):P1 (r:Int)=some ((48+r:Nat):Int):=qE (by
 unfold ZP
 rw [if_pos (by simp; omega),Aa (by omega)]
 have e:IntKind.u8.wrap (48+(r:Int))=(48+(r:Int)) % 256:=rfl
 rw [e]
 congr 1
 omega)
theorem ABc:∀ (k n:Nat) (acc:ByteArray),n<10^k->n<4611686018427387904->acc.size+k<=100->JX (n:Int) false acc=some (if n=0 then acc else Ch (Go.Lib.decDigits n)++acc):=by
 intro k
 induction k with
 | zero =>
  intro n acc hn hb ha
  have:n=0:=by simpa using hn
  subst this
  refine G3 ?_
  unfold Ey
  rw [if_neg (by simp),if_neg (by simp)]
  rfl
 | succ k ih =>
  intro n acc hn hb ha
  by_cases h0:n=0
  ·subst h0
   refine G3 ?_
   unfold Ey
   rw [if_neg (by simp),if_neg (by simp)]
   rfl
  ·have hq:n / 10<10^k:=by rw [Nat.pow_succ] at hn; omega
   have hs:(Ch [UInt8.ofNat (48+n % 10)]++acc).size=1+acc.size:=by rw [ByteArray.size_append,AS]; rfl
   have:=ih (n / 10) (Ch [UInt8.ofNat (48+n % 10)]++acc) hq (by omega) (by rw [hs]; omega)
   have et:Int.tmod (n:Int) 10=((n % 10:Nat):Int):=by rw [Int.tmod_eq_emod_of_nonneg (by omega)]; omega
   refine G3 ?_
   unfold Ey
   rw [if_pos (by simpa using h0),if_neg (by omega),et,if_neg (by rw [decide_eq_false (by omega)]; simp)]
   refine Wt ?_
   unfold OM
   rw [zD (by omega),AA,sB (by omega),if_pos (by rw [AS]; simp; omega),if_neg (by omega),Int.tdiv_eq_ediv_of_nonneg (by omega),Aa (by omega),show (n:Int) / 10=((n / 10:Nat):Int) by omega,this,if_neg h0]
   congr 1
   by_cases h1:n / 10=0
   ·rw [if_pos h1,Go.Lib.decDigits_one (by omega),Nat.mod_eq_of_lt (by omega)]
   ·rw [if_neg h1,Go.Lib.decDigits.eq_def n,dif_neg (by omega),B9,ByteArray.append_assoc]
theorem HK {n:Nat} (h:n<10000000000000):BB (n:Int)=some (Ch (Go.Lib.itoa (n:Int))):=fJ (by
 unfold US
 have ei:Go.Lib.itoa (n:Int)=Go.Lib.decDigits n:=by unfold Go.Lib.itoa; rw [if_neg (by omega)]; simp
 by_cases h0:n=0
 ·subst h0
  rw [if_pos (by simp),ei,Go.Lib.decDigits_one (by omega)]
  rfl
 ·rw [if_neg (by simpa using h0),show decide ((n:Int)<0)=false from decide_eq_false (by omega),ABc 13 n _ (by omega) (by omega) (by decide),if_neg h0,ei]
  congr 1
  apply ByteArray.ext
  simp [ByteArray.data_append,Ch])
theorem VJ:BB (-1)=some (Ch (Go.Lib.itoa (-1))):=fJ (by
 have ei:Go.Lib.itoa (-1)=[45,49]:=by
  unfold Go.Lib.itoa
  rw [if_pos (by decide)]
  show (45:UInt8)::Go.Lib.decDigits 1=_
  rw [Go.Lib.decDigits_one (by omega)]
  rfl
 unfold US
 rw [if_neg (by decide),ei]
 refine G3 ?_
 unfold Ey
 rw [if_pos (by decide),if_neg (by decide),if_pos (by decide)]
 refine Wt ?_
 unfold OM
 rw [show IntKind.i64.wrap (0-Int.tmod (-1) 10)=((1:Nat):Int) by decide,zD (by omega),AA,sB (by omega),if_pos (by decide),if_neg (by decide),show IntKind.i64.wrap (Int.tdiv (-1) 10)=0 by decide]
 refine G3 ?_
 unfold Ey
 rw [if_neg (by decide),if_pos (by decide),if_pos (by decide)]
 rfl)
def AGP (x:ByteArray) (n:Int):Int×Bool:=if n>1000000000 then (0,false) else if Ch (Go.Lib.itoa n)=x then (n,true) else (0,false)
def bE (x:ByteArray):List UInt8->Int->Int×Bool
 | [],n=>AGP x n
 | b::r,n=>if b.toNat<48\/57<b.toNat then (0,false) else bE x r (n*10+((b.toNat:Int)-48))
def jD (x:ByteArray):Int×Bool:=if x.size=0\/10<x.size then (0,false) else bE x x.data.toList 0
theorem ACv {x:ByteArray} (hx:x.data.toList.length<=10):∀ (k i:Nat) (n:Int),i+k=x.data.toList.length->0<=n/\n<10^i->GN x n (i:Int)=some (bE x (x.data.toList.drop i) n)
 | 0,i,n,hk,hn=>by
  have hp:(10:Int)^i<=10000000000:=by
   have:(10:Nat)^i<=10^10:=Nat.pow_le_pow_right (by omega) (by omega)
   have e:((10^i:Nat):Int)=(10:Int)^i:=by simp
   omega
  refine Pb ?_
  unfold JG
  rw [if_neg (by rw [decide_eq_false (by rw [EM]; omega)]; simp),List.drop_eq_nil_of_le (by omega)]
  refine df ?_
  unfold PZ bE AGP
  by_cases h1:n>1000000000
  ·rw [if_neg (by simpa using h1),if_pos h1]
  ·rw [if_pos (by simpa using h1),if_neg h1,Jw (by omega) (by omega),AA,VI]
   by_cases h2:Ch (Go.Lib.itoa n)=x
   ·rw [if_neg (by simp [h2]),if_pos h2]
   ·rw [if_pos (by simp [h2]),if_neg h2]
 | k+1,i,n,hk,hn=>by
  have hp:(10:Int)^i<=10000000000:=by
   have:(10:Nat)^i<=10^10:=Nat.pow_le_pow_right (by omega) (by omega)
   have e:((10^i:Nat):Int)=(10:Int)^i:=by simp
   omega
  have hi:i<x.data.toList.length:=by omega
  refine Pb ?_
  unfold JG
  rw [Am hi]
  have hu:=(x.data.toList[i]).toNat_lt
  rw [if_pos (decide_eq_true (by rw [EM]; omega)),Ab,Xu hi]
  repeat rw [if_pos (show (0:Int)<=(i:Int) by omega)]
  repeat rw [if_pos (show (i:Int)<(x.size:Int) by rw [EM]; omega)]
  unfold bE
  by_cases h1:(x.data.toList[i]).toNat<48
  ·rw [if_neg (by rw [decide_eq_true (by omega)]; simp),if_pos (.inl h1)]
  ·rw [if_pos (decide_eq_false (by omega))]
   by_cases h2:57<(x.data.toList[i]).toNat
   ·rw [if_pos (decide_eq_true (by omega)),if_pos (.inr h2)]
   ·have w8:IntKind.u8.wrap (((x.data.toList[i]).toNat:Int)-48)=((x.data.toList[i]).toNat:Int)-48:=by
     have e:IntKind.u8.wrap (((x.data.toList[i]).toNat:Int)-48)=(((x.data.toList[i]).toNat:Int)-48) % 256:=rfl
     rw [e]; omega
    have hpow:(10:Int)^(i+1)=10^i*10:=Int.pow_succ ..
    rw [if_neg (by rw [decide_eq_false (by omega)]; simp),if_neg (by omega),w8,Aa (n:=n*10) (by omega),Aa (n:=((x.data.toList[i]).toNat:Int)-48) (by omega),Aa (n:=n*10+_) (by omega),AO (by omega)]
    exact ACv hx k (i+1) _ (by omega) (by rw [hpow]; omega)
theorem ACw {x:ByteArray} (hx:x.data.toList.length<=10):∀ (k i:Nat) (n:Int),i+k=x.data.toList.length->0<=n/\n<10^i->GL x n (i:Int)=some (bE x (x.data.toList.drop i) n)
 | 0,i,n,hk,hn=>by
  have hp:(10:Int)^i<=10000000000:=by
   have:(10:Nat)^i<=10^10:=Nat.pow_le_pow_right (by omega) (by omega)
   have e:((10^i:Nat):Int)=(10:Int)^i:=by simp
   omega
  refine PS ?_
  unfold JC
  rw [if_neg (by rw [decide_eq_false (by rw [EM]; omega)]; simp),List.drop_eq_nil_of_le (by omega)]
  refine dV ?_
  unfold PR bE AGP
  by_cases h1:n>1000000000
  ·rw [if_neg (by simpa using h1),if_pos h1]
  ·obtain ⟨q,rfl⟩:∃ q:Nat,n=(q:Int):=⟨n.toNat,by omega⟩
   rw [if_pos (by simpa using h1),if_neg h1,HK (by omega),AA,VI]
   by_cases h2:Ch (Go.Lib.itoa q)=x
   ·rw [if_neg (by simp [h2]),if_pos h2]
   ·rw [if_pos (by simp [h2]),if_neg h2]
 | k+1,i,n,hk,hn=>by
  have hp:(10:Int)^i<=10000000000:=by
   have:(10:Nat)^i<=10^10:=Nat.pow_le_pow_right (by omega) (by omega)
   have e:((10^i:Nat):Int)=(10:Int)^i:=by simp
   omega
  have hi:i<x.data.toList.length:=by omega
  refine PS ?_
  unfold JC
  rw [Am hi]
  have hu:=(x.data.toList[i]).toNat_lt
  rw [if_pos (decide_eq_true (by rw [EM]; omega)),Ab,Xu hi]
  repeat rw [if_pos (show (0:Int)<=(i:Int) by omega)]
  repeat rw [if_pos (show (i:Int)<(x.size:Int) by rw [EM]; omega)]
  unfold bE
  by_cases h1:(x.data.toList[i]).toNat<48
  ·rw [if_neg (by rw [decide_eq_true (by omega)]; simp),if_pos (.inl h1)]
  ·rw [if_pos (decide_eq_false (by omega))]
   by_cases h2:57<(x.data.toList[i]).toNat
   ·rw [if_pos (decide_eq_true (by omega)),if_pos (.inr h2)]
   ·have hpow:(10:Int)^(i+1)=10^i*10:=Int.pow_succ ..
    rw [if_neg (by rw [decide_eq_false (by omega)]; simp),if_neg (by omega),Aa (n:=10*n) (by omega),Aa (n:=((x.data.toList[i]).toNat:Int)) (by omega),Aa (n:=10*n+_) (by omega),Aa (n:=10*n+_-48) (by omega),AO (by omega),show 10*n+((x.data.toList[i]).toNat:Int)-48=n*10+(((x.data.toList[i]).toNat:Int)-48) by omega]
    exact ACw hx k (i+1) _ (by omega) (by rw [hpow]; omega)
theorem GQ (x:ByteArray):IZ x=some (jD x):=lB (by
 unfold U3 jD
 by_cases h0:x.size=0
 ·rw [if_neg (by simp [h0]),if_pos (.inl h0)]
 ·rw [if_pos (by simpa using h0)]
  by_cases h1:10<x.size
  ·rw [if_pos (by simp; omega),if_pos (.inr h1)]
  ·rw [if_neg (by simp; omega),if_neg (by omega)]
   refine dg ?_
   unfold Pa
   exact ACv (by rw [<- EM]; omega) x.data.toList.length 0 0 (by omega) (by simp))
theorem GR (x:ByteArray):ET x=some (jD x):=km (by
 unfold Uw jD
 by_cases h1:10<x.size
 ·rw [if_pos (by simp; omega),if_pos (.inr h1)]
 ·rw [if_neg (by simp; omega)]
  have:=ACw (x:=x) (by rw [<- EM]; omega) x.data.toList.length 0 0 (by omega) (by simp)
  refine Eq.trans this ?_
  rw [List.drop_zero]
  by_cases h0:x.size=0
  ·have e:x.data.toList=[]:=DD.1 (by rw [<- EM]; exact h0)
   have e2:x=Ch []:=by rw [<- VH x,e]
   rw [if_pos (.inl h0),e]
   unfold bE AGP
   rw [if_neg (by omega),if_neg (by
    rw [e2]
    intro h
    have h:=ACt h
    have e0:Go.Lib.itoa 0=[48]:=by
     unfold Go.Lib.itoa
     rw [if_neg (by omega)]
     show Go.Lib.decDigits 0=_
     rw [Go.Lib.decDigits_one (by omega)]
     rfl
    rw [e0] at h
    cases h)]
  ·rw [if_neg (by omega)])

theorem isB {u:UInt8} (n:Nat) (hn:n<256) {m:Int} (hm:m=(n:Int)):((u.toNat:Int)==m)=decide (u=UInt8.ofNat n):=by
 subst hm
 rw [Bool.eq_iff_iff,beq_iff_eq,decide_eq_true_eq]
 exact AE6 hn
theorem AGW {u:UInt8}:((u.toNat:Int)==10)=decide (u=10):=isB 10 (by omega) rfl
theorem AHf {u:UInt8}:((u.toNat:Int)==32)=decide (u=32):=isB 32 (by omega) rfl
theorem AHg {u:UInt8}:((u.toNat:Int)==44)=decide (u=44):=isB 44 (by omega) rfl
theorem AHh {u:UInt8}:((u.toNat:Int)==35)=decide (u=35):=isB 35 (by omega) rfl
theorem Dg (x:ByteArray):x.data.toList.length=x.size:=by simp
def aH:List (List UInt8)->List (List UInt8)
 | []=>[]
 | [p]=>if p=[] then [] else [p]
 | p::q::t=>p::aH (q::t)
theorem lU (p:List UInt8) {q:List (List UInt8)} (h:q≠[]):aH (p::q)=p::aH q:=by
 cases q with
 | nil=>exact absurd rfl h
 | cons a t=>rfl
def LW (x:ByteArray):List ByteArray:=(aH (cut 10 x.data.toList)).map Ch
theorem lV {x:ByteArray} (hx:x.size<=1048576):∀ (k i a:Nat) (acc:List ByteArray),i+k=x.size->a<=i->acc.length<=i->F_ x (a:Int) (i:Int) acc=some (acc++(aH (QJ (zC x.data.toList a i) (cut 10 (x.data.toList.drop i)))).map Ch)
 | 0,i,a,acc,hk,ha,hl=>by
  have hs:=Dg x
  have hi:i=x.size:=by omega
  refine Uk ?_
  unfold Md
  rw [if_neg (by rw [decide_eq_false (by omega)]; simp),List.drop_eq_nil_of_le (by omega),show cut 10 []=[[]] from rfl]
  refine kU ?_
  unfold Uj
  simp only [QJ,List.append_nil]
  by_cases h:a<x.size
  ·rw [if_pos (decide_eq_true (by omega)),if_pos (by omega),if_pos (by omega),if_pos (by omega),if_pos (by simp; omega),KT,Ab,Ab,aH,if_neg (by rw [h_ ha (by omega)]; omega),<- hi]
   rfl
  ·rw [if_neg (by rw [decide_eq_false (by omega)]; simp),aH,if_pos ((h_ ha (by omega)).2 (by omega))]
   simp
 | k+1,i,a,acc,hk,ha,hl=>by
  have hs:=Dg x
  have hi:i<x.data.toList.length:=by omega
  refine Uk ?_
  unfold Md
  rw [if_pos (decide_eq_true (by omega)),if_pos (by omega),if_pos (by omega),Ab,Xu hi,AGW,Am hi]
  by_cases hb:x.data.toList[i]=10
  ·rw [if_pos (decide_eq_true hb),if_pos (by omega),if_pos (by omega),if_pos (by omega),if_pos (by simp; omega),AO (by omega),KT,Ab,xO _ _ hb,lU _ (ACu _ _),
    lV hx k (i+1) (i+1) _ (by omega) (by omega) (by simp; omega),aG]
   simp
  ·rw [if_neg (by rw [decide_eq_false hb]; simp),AO (by omega),lV hx k (i+1) a acc (by omega) (by omega) (by omega),xP ha hi,AAc _ _ hb]
theorem VK (x:ByteArray) (hx:x.size<=1048576):L5 x=some (LW x):=sy (by
 unfold cQ
 have:=lV hx x.size 0 0 [] (by omega) (by omega) (by simp)
 refine Eq.trans this ?_
 rw [aG,List.drop_zero,og (gf _ _)]
 rfl)
theorem lW:∀ {p:List (List UInt8)},p≠[]->aH p=if p.getLast? = some [] then p.dropLast else p
 | [],h=>absurd rfl h
 | [p],_=>by
  unfold aH
  by_cases h:p=[]
  ·rw [if_pos h,h]; rfl
  ·rw [if_neg h,if_neg (by simpa using h)]
 | p::q::t,_=>by
  rw [lU p (by simp),lW (p:=q::t) (by simp),List.getLast?_cons_cons]
  split
  ·rfl
  ·rfl
theorem oh (c:UInt8):∀ l,1<=(cut c l).length/\(cut c l).length<=l.length+1
 | []=>by simp [cut]
 | b::l=>by
  have ih:=oh c l
  unfold cut
  split
  ·simp only [List.length_cons]; omega
  ·have:(QJ [b] (cut c l)).length=(cut c l).length:=by
    cases h:cut c l with
    | nil=>exact absurd h (gf c l)
    | cons a t=>rfl
   rw [this]
   simp only [List.length_cons]
   omega
def okB (u:UInt8):Bool:=decide (32<=u.toNat)&&decide (u.toNat<=126)
def AAd (z:List ByteArray):List ByteArray×Bool:=if 10<z.length then ([],false) else (z,true)
def gj (p:List (List UInt8)):List ByteArray:=(p.filter fun q=>!q.isEmpty).map Ch
def Mv (x:ByteArray):List ByteArray×Bool :=
 if 600<x.size then ([],false) else if x.data.toList.all okB=true then AAd (gj (cut 32 x.data.toList)) else ([],false)
theorem lX (p:List UInt8) (q:List (List UInt8)):gj (p::q)=(if p=[] then [] else [Ch p])++gj q:=by
 unfold gj
 cases p with
 | nil=>rfl
 | cons a t=>rfl
theorem ADl {x:ByteArray} (hx:x.size<=1048576) (b:Int) (acc:List ByteArray):DH x b ((x.size+1:Nat):Int) acc=some (AAd acc):=by
 refine OO ?_
 unfold Ja
 rw [if_neg (by rw [decide_eq_false (by omega)]; simp)]
 refine nB ?_
 unfold W0 AAd
 by_cases h:10<acc.length
 ·rw [if_pos (decide_eq_true (by omega)),if_pos h]
 ·rw [if_neg (by rw [decide_eq_false (by omega)]; simp),if_neg h]
theorem zE {x:ByteArray} (hx:x.size<=1048576) {a i:Nat} {b:Bool} {acc:List ByteArray} (ha:a<=i) (hi:i<=x.size) (hl:acc.length<=i) {r:List ByteArray×Bool}
  (h:DH x ((i+1:Nat):Int) ((i+1:Nat):Int) (acc++(if zC x.data.toList a i=[] then [] else [Ch (zC x.data.toList a i)]))=some r):JY x (a:Int) (i:Int) b acc=some r:=by
 have hs:=Dg x
 refine nA ?_
 unfold Wz
 by_cases hai:a<i
 ·rw [if_neg (by rw [h_ ha (by omega)]; omega)] at h
  rw [if_pos (decide_eq_true (by omega)),if_pos (by omega),if_pos (by omega),if_pos (by omega),if_pos (by simp; omega),AO (by omega),KT,Ab,Ab]
  exact h
 ·rw [if_pos ((h_ ha (by omega)).2 (by omega)),List.append_nil] at h
  rw [if_neg (by rw [decide_eq_false (by omega)]; simp),AO (by omega)]
  exact h
theorem lY {x:ByteArray} (hx:x.size<=1048576):∀ (k i a:Nat) (acc:List ByteArray),i+k=x.size->a<=i->acc.length<=i ->
  DH x (a:Int) (i:Int) acc=some (if (x.data.toList.drop i).all okB=true then AAd (acc++gj (QJ (zC x.data.toList a i) (cut 32 (x.data.toList.drop i)))) else ([],false))
 | 0,i,a,acc,hk,ha,hl=>by
  have hs:=Dg x
  have hi:i=x.size:=by omega
  refine OO ?_
  unfold Ja
  rw [if_pos (decide_eq_true (by omega)),if_neg (by rw [decide_eq_false (by omega)]; simp),List.drop_eq_nil_of_le (by omega),if_pos (by simp),show cut 32 []=[[]] from rfl]
  refine W3 ?_
  unfold ON
  rw [if_neg (by rw [decide_eq_false (by omega)]; simp)]
  refine zE hx ha (by omega) hl ?_
  rw [hi,ADl hx]
  simp only [QJ,List.append_nil]
  rw [lX]
  simp [gj]
 | k+1,i,a,acc,hk,ha,hl=>by
  have hs:=Dg x
  have hi:i<x.data.toList.length:=by omega
  have J1:∀ b,JZ x (a:Int) (i:Int) b acc=some (if (x.data.toList.drop (i+1)).all okB=true then AAd (acc++gj (QJ (zC x.data.toList a i) (cut 32 (x.data.toList.drop i)))) else ([],false)):=fun b=>by
   refine W3 ?_
   unfold ON
   rw [if_pos (decide_eq_true (by omega)),if_pos (by omega),if_pos (by omega),Ab,Xu hi,bne,AHf,Am hi]
   by_cases hb:x.data.toList[i]=32
   ·rw [if_neg (by rw [decide_eq_true hb]; simp)]
    refine zE hx ha (by omega) hl ?_
    rw [lY hx k (i+1) (i+1) _ (by omega) (by omega) (by split<;>simp<;>omega),aG,xO _ _ hb,lX,Bf]
   ·rw [if_pos (by rw [decide_eq_false hb]; simp),AO (by omega),lY hx k (i+1) a acc (by omega) (by omega) (by omega),xP ha hi,AAc _ _ hb]
  refine OO ?_
  unfold Ja
  rw [if_pos (decide_eq_true (by omega)),if_pos (decide_eq_true (by omega)),if_pos (by omega),if_pos (by omega),Ab,Xu hi,Am hi,List.all_cons]
  by_cases h1:(x.data.toList[i]).toNat<32
  ·rw [if_neg (by rw [decide_eq_true (by omega)]; simp),if_neg (by
    have:okB x.data.toList[i]=false:=by unfold okB; rw [decide_eq_false (by omega)]; rfl
    rw [this]; simp)]
  ·rw [if_pos (decide_eq_false (by omega)),if_pos (by omega),if_pos (by omega)]
   by_cases h2:126<(x.data.toList[i]).toNat
   ·rw [if_pos (decide_eq_true (by omega)),if_neg (by
     have:okB x.data.toList[i]=false:=by unfold okB; rw [decide_eq_false (p:=(x.data.toList[i]).toNat<=126) (by omega),Bool.and_false]
     rw [this]; simp)]
   ·have:okB x.data.toList[i]=true:=by unfold okB; rw [decide_eq_true (by omega),decide_eq_true (by omega)]; rfl
    rw [if_neg (by rw [decide_eq_false (by omega)]; simp),J1,this,Bool.true_and,<- Am hi]
theorem ol (x:ByteArray):UB x=some (Mv x):=v8 (by
 unfold fP Mv
 by_cases h:600<x.size
 ·rw [if_pos (decide_eq_true (by omega)),if_pos h]
 ·rw [if_neg (by rw [decide_eq_false (by omega)]; simp),if_neg h]
  have:=lY (x:=x) (by omega) x.size 0 0 [] (by omega) (by omega) (by simp)
  refine Eq.trans this ?_
  rw [aG,List.drop_zero,og (gf _ _),List.nil_append])
theorem rN (ps:List (List UInt8)) (hp:ps.length<=1048577):∀ (k i:Nat) (acc:List ByteArray),i+k=ps.length->acc.length<=i->G7 (ps.map Ch) (ps.length:Int) (i:Int) acc=some (AAd (acc++gj (ps.drop i)))
 | 0,i,acc,hk,hl=>by
  refine XL ?_
  unfold Of
  rw [if_neg (by rw [decide_eq_false (by omega)]; simp),List.drop_eq_nil_of_le (by omega)]
  refine nc ?_
  unfold XJ AAd
  rw [show gj []=[] from rfl,List.append_nil]
  by_cases h:10<acc.length
  ·rw [if_pos (decide_eq_true (by omega)),if_pos h]
  ·rw [if_neg (by rw [decide_eq_false (by omega)]; simp),if_neg h]
 | k+1,i,acc,hk,hl=>by
  have hi:i<ps.length:=by omega
  have hi2:i<(ps.map Ch).length:=by simpa using hi
  refine XL ?_
  unfold Of
  rw [if_pos (decide_eq_true (by omega)),if_pos (by omega),if_pos (by simp; omega),Ab,AW hi2,List.getElem_map,VI,Am hi,lX,AO (by omega)]
  by_cases hb:ps[i]=[]
  ·rw [if_neg (by rw [hb,show decide (Ch []=(⟨#[]⟩:ByteArray))=true from decide_eq_true rfl]; simp),if_pos hb,rN ps hp k (i+1) acc (by omega) (by omega)]
   rfl
  ·rw [if_pos (by rw [show decide (Ch ps[i]=(⟨#[]⟩:ByteArray))=false from decide_eq_false (fun e=>hb (ACt (b:=[]) e))]; rfl),if_neg hb,if_pos (by simp; omega),rN ps hp k (i+1) _ (by omega) (by simp; omega),Bf]
theorem xQ {x:ByteArray} (hx:x.size<=1048576):∀ (k i:Nat),i+k=x.size->Ji x (i:Int)=some (if (x.data.toList.drop i).all okB=true then AAd (gj (cut 32 x.data.toList)) else ([],false))
 | 0,i,hk=>by
  have hs:=Dg x
  have hc:=oh 32 x.data.toList
  refine XM ?_
  unfold Og
  rw [if_neg (by rw [decide_eq_false (by omega)]; simp),List.drop_eq_nil_of_le (by omega),if_pos (by simp)]
  refine ne ?_
  unfold XK
  rw [LV _ _ (by omega),AA]
  have:=rN (cut 32 x.data.toList) (by omega) (cut 32 x.data.toList).length 0 [] (by omega) (by simp)
  unfold gh
  rw [List.length_map]
  refine Eq.trans this ?_
  rfl
 | k+1,i,hk=>by
  have hs:=Dg x
  have hi:i<x.data.toList.length:=by omega
  refine XM ?_
  unfold Og
  rw [if_pos (decide_eq_true (by omega)),if_pos (by omega),if_pos (by omega),Ab,Xu hi,Am hi,List.all_cons]
  by_cases h1:(x.data.toList[i]).toNat<32
  ·rw [if_neg (by rw [decide_eq_true (by omega)]; simp),if_neg (by
    have:okB x.data.toList[i]=false:=by unfold okB; rw [decide_eq_false (by omega)]; rfl
    rw [this]; simp)]
  ·rw [if_pos (decide_eq_false (by omega)),if_pos (by omega),if_pos (by omega)]
   by_cases h2:126<(x.data.toList[i]).toNat
   ·rw [if_pos (decide_eq_true (by omega)),if_neg (by
     have:okB x.data.toList[i]=false:=by unfold okB; rw [decide_eq_false (p:=(x.data.toList[i]).toNat<=126) (by omega),Bool.and_false]
     rw [this]; simp)]
   ·have:okB x.data.toList[i]=true:=by unfold okB; rw [decide_eq_true (by omega),decide_eq_true (by omega)]; rfl
    rw [if_neg (by rw [decide_eq_false (by omega)]; simp),AO (by omega),xQ hx k (i+1) (by omega),this,Bool.true_and]
theorem om (x:ByteArray):UH x=some (Mv x):=wM (by
 unfold fo Mv
 by_cases h:600<x.size
 ·rw [if_pos (decide_eq_true (by omega)),if_pos h]
 ·rw [if_neg (by rw [decide_eq_false (by omega)]; simp),if_neg h]
  exact xQ (x:=x) (by omega) x.size 0 (by omega))
def goL:List (List UInt8)->List Int->List Int×Bool
 | [],acc=>(acc,true)
 | p::t,acc=>if (jD (Ch p)).2=true then goL t (acc++[(jD (Ch p)).1]) else ([],false)
def Cf (x:ByteArray):List Int×Bool:=goL (cut 44 x.data.toList) []
theorem xR {x:ByteArray} (hx:x.size<=1048576) {a i:Nat} {b:Bool} {acc:List Int} {t:List (List UInt8)} (ha:a<=i) (hi:i<=x.size) (hl:acc.length<=i)
  (h:∀ n,D8 x ((i+1:Nat):Int) ((i+1:Nat):Int) (acc++[n])=some (goL t (acc++[n]))):Hg x (a:Int) (i:Int) b acc=some (goL (zC x.data.toList a i::t) acc):=by
 refine ic ?_
 unfold Sj goL
 rw [if_pos (by omega),if_pos (by omega),if_pos (by omega),KT,Ab,Ab,GR,AA]
 cases hr:(jD (Ch (zC x.data.toList a i))).2 with
 | true=>rw [if_neg (by simp),if_pos (by simp; omega),if_pos rfl,AO (by omega),h]
 | false=>rw [if_pos (by simp),if_neg (by simp)]
theorem gm {x:ByteArray} (hx:x.size<=1048576):∀ (k i a:Nat) (acc:List Int),i+k=x.size->a<=i->acc.length<=i->D8 x (a:Int) (i:Int) acc=some (goL (QJ (zC x.data.toList a i) (cut 44 (x.data.toList.drop i))) acc)
 | 0,i,a,acc,hk,ha,hl=>by
  have hs:=Dg x
  have hi:i=x.size:=by omega
  refine LG ?_
  unfold Hh
  rw [if_pos (decide_eq_true (by omega)),if_neg (by rw [decide_eq_false (by omega)]; simp),List.drop_eq_nil_of_le (by omega),show cut 44 []=[[]] from rfl]
  simp only [QJ,List.append_nil]
  refine xR hx ha (by omega) hl fun n=>?_
  refine LG ?_
  unfold Hh
  rw [if_neg (by rw [decide_eq_false (by omega)]; simp)]
  rfl
 | k+1,i,a,acc,hk,ha,hl=>by
  have hs:=Dg x
  have hi:i<x.data.toList.length:=by omega
  refine LG ?_
  unfold Hh
  rw [if_pos (decide_eq_true (by omega)),if_pos (decide_eq_true (by omega)),if_pos (by omega),if_pos (by omega),Ab,Xu hi,bne,AHg,Am hi]
  by_cases hb:x.data.toList[i]=44
  ·rw [if_neg (by rw [decide_eq_true hb]; simp),xO _ _ hb]
   refine xR hx ha (by omega) hl fun n=>?_
   rw [gm hx k (i+1) (i+1) _ (by omega) (by omega) (by simp; omega),aG]
  ·rw [if_pos (by rw [decide_eq_false hb]; simp),AO (by omega),gm hx k (i+1) a acc (by omega) (by omega) (by omega),xP ha hi,AAc _ _ hb]
theorem jE (x:ByteArray) (hx:x.size<=1048576):P0 x=some (Cf x):=qB (by
 unfold ZO Cf
 have:=gm hx x.size 0 0 [] (by omega) (by omega) (by simp)
 refine Eq.trans this ?_
 rw [aG,List.drop_zero,og (gf _ _)])
theorem zF (ps:List (List UInt8)) (hp:ps.length<=1048577):∀ (k i:Nat) (acc:List Int),i+k=ps.length->acc.length<=i->Ko (ps.map Ch) (ps.length:Int) (i:Int) acc=some (goL (ps.drop i) acc)
 | 0,i,acc,hk,hl=>by
  refine Zb ?_
  unfold P_
  rw [if_neg (by rw [decide_eq_false (by omega)]; simp),List.drop_eq_nil_of_le (by omega)]
  rfl
 | k+1,i,acc,hk,hl=>by
  have hi:i<ps.length:=by omega
  have hi2:i<(ps.map Ch).length:=by simpa using hi
  refine Zb ?_
  unfold P_
  rw [if_pos (decide_eq_true (by omega)),if_pos (by omega),if_pos (by simp; omega),Ab,AW hi2,List.getElem_map,GQ,AA,Am hi,AO (by omega)]
  unfold goL
  cases hr:(jD (Ch ps[i])).2 with
  | true=>rw [if_neg (by simp),if_pos (by simp; omega),if_pos rfl,zF ps hp k (i+1) _ (by omega) (by simp; omega)]
  | false=>rw [if_pos (by simp),if_neg (by simp)]
theorem aI (x:ByteArray) (hx:x.size<=1048576):X6 x=some (Cf x):=yO (by
 have hc:=oh 44 x.data.toList
 have hs:=Dg x
 unfold jR Cf
 rw [LV _ _ (by omega),AA]
 unfold gh
 rw [List.length_map]
 exact zF (cut 44 x.data.toList) (by omega) (cut 44 x.data.toList).length 0 [] (by omega) (by simp))

theorem isW (x:ByteArray) (l:List UInt8):(x.toList==(Ch l).toList)=decide (x.data.toList=l):=by
 rw [VI,Bool.eq_iff_iff,decide_eq_true_eq,decide_eq_true_eq]
 exact ⟨fun h=>by rw [h]; rfl,fun h=>by rw [<- h,VH]⟩
theorem AHt (x:ByteArray) (l:List UInt8):((Ch l).toList==x.toList)=decide (l=x.data.toList):=by
 rw [VI,Bool.eq_iff_iff,decide_eq_true_eq,decide_eq_true_eq]
 exact ⟨fun h=>by rw [<- h]; rfl,fun h=>by rw [h,VH]⟩
theorem AHi (p:ByteArray):(p.toList==(⟨#[112,117,116]⟩:ByteArray).toList)=decide (p.data.toList=[112,117,116]):=isW p _
theorem AHG (p:ByteArray):(p.toList==(⟨#[103,101,116]⟩:ByteArray).toList)=decide (p.data.toList=[103,101,116]):=isW p _
theorem AHu (p:ByteArray):(p.toList==(⟨#[100,101,108,105,118,101,114]⟩:ByteArray).toList)=decide (p.data.toList=[100,101,108,105,118,101,114]):=isW p _
theorem AHj (p:ByteArray):(p.toList==(⟨#[100,114,111,112]⟩:ByteArray).toList)=decide (p.data.toList=[100,114,111,112]):=isW p _
theorem AHk (p:ByteArray):(p.toList==(⟨#[99,111,112,121]⟩:ByteArray).toList)=decide (p.data.toList=[99,111,112,121]):=isW p _
theorem AHH (p:ByteArray):(p.toList==(⟨#[97,100,111,112,116]⟩:ByteArray).toList)=decide (p.data.toList=[97,100,111,112,116]):=isW p _
theorem AHl (p:ByteArray):(p.toList==(⟨#[102,97,108,108]⟩:ByteArray).toList)=decide (p.data.toList=[102,97,108,108]):=isW p _
theorem ACx (p:ByteArray):(p.toList==(⟨#[118,105,101,119]⟩:ByteArray).toList)=decide (p.data.toList=[118,105,101,119]):=isW p _
def ZEv:Ax:=((0:Int),(0:Int),(0:Int),(0:Int),U,U)
def KU:List (List UInt8):=[[100,101,108,105,118,101,114],[100,114,111,112],[99,111,112,121],[97,100,111,112,116],[102,97,108,108]]
def AE7 (k n:Int):Ax:=if k<=4 then (k,1,n,0,U,U) else (k,n,0,0,U,U)
def ACG (l:List UInt8) (a:ByteArray):List (List UInt8)->Int->Ax×Bool
 | [],_=>(ZEv,false)
 | w::ws,k=>if w=l then (AE7 k (jD a).1,(jD a).2) else ACG l a ws (k+1)
def TP (l:List UInt8) (t:List ByteArray):Ax×Bool :=
 if l=[112,117,116] then (match t with
  | [a,b,c]=>((1,(jD a).1,0,1,b,c),(jD a).2)
  | _=>(ZEv,false))
 else if l=[103,101,116] then (match t with
  | [a,b]=>((1,(jD a).1,0,2,b,U),(jD a).2)
  | _=>(ZEv,false))
 else (match t with
  | [a]=>ACG l a KU 2
  | _=>(ZEv,false))
theorem AAe (p:ByteArray) (t:List ByteArray) (z:Ax) (ht:t.length≠1):∀ (k i:Nat),i+k=5->DW (p::t) (i:Int) z (KU.map Ch)=some (ZEv,false)
 | 0,i,hk=>by
  refine Ih ?_
  unfold GA
  rw [if_neg (by rw [decide_eq_false (by simp [KU]<;>omega)]; simp)]
  rfl
 | k+1,i,hk=>by
  have ih:=AAe p t z ht k (i+1) (by omega)
  refine Ih ?_
  unfold GA
  rw [if_pos (decide_eq_true (by simp [KU]<;>omega)),if_pos (by omega),if_pos (by simp [KU]<;>omega),if_pos (by omega),if_pos (by simp<;>omega),AO (by omega)]
  split
  ·exact ih
  ·rw [if_pos (by simp<;>omega)]
   exact ih
theorem AE8 (p a:ByteArray) (z:Ax):∀ (k i:Nat),i+k=5->DW [p,a] (i:Int) z (KU.map Ch)=some (ACG p.data.toList a (KU.drop i) (2+(i:Int)))
 | 0,i,hk=>by
  refine Ih ?_
  unfold GA
  rw [if_neg (by rw [decide_eq_false (by simp [KU]<;>omega)]; simp),List.drop_eq_nil_of_le (by simp [KU]<;>omega)]
  rfl
 | k+1,i,hk=>by
  have hi:i<KU.length:=by simp [KU]; omega
  have hi2:i<(KU.map Ch).length:=by simpa using hi
  have ih:=AE8 p a z k (i+1) (by omega)
  refine Ih ?_
  unfold GA
  rw [if_pos (decide_eq_true (by omega)),if_pos (by omega),if_pos (by omega),if_pos (by omega),if_pos (by simp),AO (by omega),Ab,AW hi2,List.getElem_map,show ([p,a]:List ByteArray).getD (0:Int).toNat U=p from rfl,AHt,Am hi]
  unfold ACG
  by_cases hw:KU[i]=p.data.toList
  ·rw [if_neg (by simp; exact hw),if_neg (by simp)]
   refine Eq.trans ?_ (congrArg some (if_pos hw).symm)
   refine kZ ?_
   unfold Uo AE7
   rw [if_pos (by omega),if_pos (by simp),show ([p,a]:List ByteArray).getD (1:Int).toNat U=a from rfl,GR,AA,Aa (by omega)]
   by_cases h4:2+(i:Int)<=4
   ·rw [if_pos (decide_eq_true h4),if_pos h4]
   ·rw [if_neg (by rw [decide_eq_false h4]; simp),if_neg h4]
  ·rw [if_pos (by simp; exact hw),ih]
   refine Eq.trans ?_ (congrArg some (if_neg hw).symm)
   congr 2
theorem oo (p:ByteArray) (t:List ByteArray) (z:Ax):DW (p::t) (0:Int) z (KU.map Ch)=some (match t with
  | [a]=>ACG p.data.toList a KU 2
  | _=>(ZEv,false)):=by
 match t with
 | []=>exact AAe p [] z (by simp) 5 0 rfl
 | [a]=>exact AE8 p a z 5 0 rfl
 | a::b::r=>exact AAe p (a::b::r) z (by simp) 5 0 rfl
theorem lZ (p:ByteArray) (t:List ByteArray):Rj (p::t)=some (TP p.data.toList t):=s0 (by
 have h0:(p::t).getD (0:Int).toNat U=p:=rfl
 have J1:∀ b z,p.data.toList≠[112,117,116]\/t.length≠3->If (p::t) b z=some (TP p.data.toList t)\/p.data.toList=[112,117,116]/\If (p::t) b z=some (ZEv,false):=fun b z hb=>by
  by_cases hput:p.data.toList=[112,117,116]
  ·refine .inr ⟨hput,Up ?_⟩
   unfold Mh
   rw [if_pos (by omega),if_pos (by simp<;>omega),h0,AHG,if_neg (by rw [hput]; decide)]
   refine Mj ?_
   unfold Ig
   rw [if_neg (by simp)]
   refine (oo p t z).trans ?_
   match t with
   | []=>rfl
   | [a]=>rw [hput]; rfl
   | a::b::r=>rfl
  ·refine .inl (Up ?_)
   unfold Mh TP
   rw [if_pos (by omega),if_pos (by simp<;>omega),h0,AHG,if_neg hput]
   by_cases hget:p.data.toList=[103,101,116]
   ·rw [if_pos (decide_eq_true hget),if_pos hget]
    refine Mj ?_
    unfold Ig
    match t with
    | [a,b] =>
     rw [if_pos (by simp),if_pos (by omega),if_pos (by simp),show (p::[a,b]).getD (1:Int).toNat U=a from rfl,GR,AA,if_pos (by omega),if_pos (by simp)]
     rfl
    | [] =>
     rw [if_neg (by simp)]
     exact (oo p [] z).trans rfl
    | [a] =>
     rw [if_neg (by simp)]
     refine (oo p [a] z).trans ?_
     rw [hget]
     rfl
    | a::b::c::r =>
     rw [if_neg (by simp<;>omega)]
     exact (oo p (a::b::c::r) z).trans rfl
   ·rw [if_neg (by rw [decide_eq_false hget]; simp),if_neg hget]
    refine Mj ?_
    unfold Ig
    rw [if_neg (by simp)]
    exact oo p t z
 unfold cR
 rw [if_pos (by omega),if_pos (by simp<;>omega),h0,AHi]
 by_cases hput:p.data.toList=[112,117,116]
 ·rw [if_pos (decide_eq_true hput)]
  refine Uq ?_
  unfold Mi
  by_cases h3:t.length=3
  ·match t,h3 with
   | [a,b,c],_ =>
    rw [if_pos (by simp),if_pos (by omega),if_pos (by simp),show (p::[a,b,c]).getD (1:Int).toNat U=a from rfl,GR,AA,if_pos (by omega),if_pos (by simp),if_pos (by omega),if_pos (by simp)]
    unfold TP
    rw [if_pos hput]
    rfl
  ·rw [if_neg (by simp<;>omega)]
   rcases J1 (((p::t).length:Int)==4) ((0:Int),(0:Int),(0:Int),(0:Int),U,U) (.inr h3) with h | ⟨_,h⟩
   ·exact h
   ·rw [h]
    unfold TP
    rw [if_pos hput]
    match t,h3 with
    | [],_=>rfl
    | [a],_=>rfl
    | [a,b],_=>rfl
    | [a,b,c],h3=>exact absurd rfl h3
    | a::b::c::d::r,_=>rfl
 ·rw [if_neg (by rw [decide_eq_false hput]; simp)]
  refine Uq ?_
  unfold Mi
  rw [if_neg (by simp)]
  rcases J1 false ((0:Int),(0:Int),(0:Int),(0:Int),U,U) (.inl hput) with h | ⟨h,_⟩
  ·exact h
  ·exact absurd h hput)
def dM (l:List UInt8):Int×Int :=
 if l=[112,117,116] then (1,4) else if l=[103,101,116] then (1,3) else if l=[100,101,108,105,118,101,114] then (2,2) else if l=[100,114,111,112] then (3,2) else if l=[99,111,112,121] then (4,2)
 else if l=[97,100,111,112,116] then (5,2) else if l=[102,97,108,108] then (6,2) else (0,0)
theorem rO (p:ByteArray):X7 p=some (dM p.data.toList):=yP (by
 unfold jT dM
 rw [AHi,AHG,AHu,AHj,AHk,AHH,AHl]
 simp only [decide_eq_true_eq]
 (repeat' split)<;>rfl)
def evR (r:Ax×Bool):Ax×Bool:=(r.1,r.2&&IG r.1)
theorem ACy (b:Bool) (z e:Ax):E0 b z e=some (evR (e,b)):=by
 refine ng ?_
 unfold XN evR
 cases b with
 | true=>rw [if_pos rfl,Xm]; rfl
 | false=>rw [if_neg (by simp)]; rfl
theorem AHI (p a:ByteArray) (k c:Int) (b:Bool) (z:Ax) (hk:2<=k/\k<=6):Jj [p,a] k c b z=some (evR (AE7 k (jD a).1,(jD a).2)):=by
 refine Oi ?_
 unfold Jl AE7
 rw [if_pos (by omega),if_pos (by simp),show ([p,a]:List ByteArray).getD (1:Int).toNat U=a from rfl,GQ,AA]
 have J1:∀ x5 e,x5=(k==2||k==3||k==4)->E1 [p,a] c (jD a).1 (jD a).2 k x5 z (k,(jD a).1,0,0,U,U)=some (evR (if k<=4 then (k,1,(jD a).1,0,U,U) else (k,(jD a).1,0,0,U,U),e))\/e≠(jD a).2:=fun x5 e h5=>by
  by_cases he:e=(jD a).2
  ·left
   subst he
   refine Oh ?_
   unfold Jk
   by_cases h4:k<=4
   ·have:x5=true:=by
     rw [h5]
     have:k=2\/k=3\/k=4:=by omega
     rcases this with rfl | rfl | rfl<;>rfl
    rw [if_pos this,ACy,if_pos h4]
   ·have:x5=false:=by
     rw [h5]
     have:k=5\/k=6:=by omega
     rcases this with rfl | rfl<;>rfl
    rw [if_neg (by rw [this]; simp),if_neg (by simp<;>omega),ACy,if_neg h4]
  ·exact .inr he
 have fin:∀ x5,x5=(k==2||k==3||k==4)->E1 [p,a] c (jD a).1 (jD a).2 k x5 z (k,(jD a).1,0,0,U,U)=some (evR (if k<=4 then (k,1,(jD a).1,0,U,U) else (k,(jD a).1,0,0,U,U),(jD a).2)):=fun x5 h5=>by
  rcases J1 x5 (jD a).2 h5 with h | h
  ·exact h
  ·exact absurd rfl h
 by_cases h2:k=2
 ·rw [if_pos (by simp [h2])]
  exact fin _ (by rw [h2]; rfl)
 ·rw [if_neg (by simpa using h2)]
  by_cases h3:k=3
  ·rw [if_pos (by simp [h3])]
   exact fin _ (by rw [h3]; rfl)
  ·rw [if_neg (by simpa using h3)]
   refine fin _ ?_
   have e2:(k==2)=false:=by simpa using h2
   have e3:(k==3)=false:=by simpa using h3
   rw [e2,e3]
   rfl
theorem Xv (p:ByteArray) (t:List ByteArray):UI (p::t)=some (evR (TP p.data.toList t)):=wN (by
 have h0:(p::t).getD (0:Int).toNat U=p:=rfl
 unfold fp
 rw [if_pos (by omega),if_pos (by simp<;>omega),h0,rO,AA]
 generalize hl:p.data.toList=l
 by_cases w1:l=[112,117,116]
 ·subst w1
  rw [show dM [112,117,116]=(1,4) from rfl,if_pos (by rfl)]
  match t with
  | [a,b,c] =>
   rw [if_neg (by simp)]
   refine Oi ?_
   unfold Jl
   rw [if_pos (by omega),if_pos (by simp),show (p::[a,b,c]).getD (1:Int).toNat U=a from rfl,GQ,AA,if_neg (by decide),if_neg (by decide)]
   refine Oh ?_
   unfold Jk
   rw [if_neg (by decide),if_pos (by decide),if_pos (by omega),if_pos (by simp),if_pos (by decide),if_pos (by omega),if_pos (by simp),ACy]
   rfl
  | []=>rw [if_pos (by simp)]; rfl
  | [a]=>rw [if_pos (by simp)]; rfl
  | [a,b]=>rw [if_pos (by simp)]; rfl
  | a::b::c::d::r=>rw [if_pos (by simp<;>omega)]; rfl
 by_cases w2:l=[103,101,116]
 ·subst w2
  rw [show dM [103,101,116]=(1,3) from rfl,if_pos (by rfl)]
  match t with
  | [a,b] =>
   rw [if_neg (by simp)]
   refine Oi ?_
   unfold Jl
   rw [if_pos (by omega),if_pos (by simp),show (p::[a,b]).getD (1:Int).toNat U=a from rfl,GQ,AA,if_neg (by decide),if_neg (by decide)]
   refine Oh ?_
   unfold Jk
   rw [if_neg (by decide),if_pos (by decide),if_pos (by omega),if_pos (by simp),if_neg (by decide),ACy]
   rfl
  | []=>rw [if_pos (by simp)]; rfl
  | [a]=>rw [if_pos (by simp)]; rfl
  | a::b::c::r=>rw [if_pos (by simp<;>omega)]; rfl
 have go:∀ k:Int,2<=k/\k<=6->dM l=(k,2)->(∀ a,TP l [a]=(AE7 k (jD a).1,(jD a).2))->TP l []=(ZEv,false)->(∀ a b r,TP l (a::b::r)=(ZEv,false)) ->
   (if ((dM l).1==(0:Int))=false then (if (((p::t).length:Int) != (dM l).2)=true then (some (((0:Int),(0:Int),(0:Int),(0:Int),U,U),false)) else (Jj (p::t) (dM l).1 (dM l).2 (((p::t).length:Int) != (dM l).2) ((0:Int),(0:Int),(0:Int),(0:Int),U,U))) else (some (((0:Int),(0:Int),(0:Int),(0:Int),U,U),false)))=some (evR (TP l t)):=by
  intro k hk e1 r1 r0 r2
  rw [e1,if_pos (by simp<;>omega)]
  match t with
  | [a] =>
   rw [if_neg (by simp),AHI p a k 2 _ _ hk,r1]
  | []=>rw [if_pos (by simp),r0]; rfl
  | a::b::r=>rw [if_pos (by simp<;>omega),r2]; rfl
 by_cases w3:l=[100,101,108,105,118,101,114]
 ·subst w3; exact go 2 (by omega) rfl (fun a=>rfl) rfl (fun a b r=>rfl)
 by_cases w4:l=[100,114,111,112]
 ·subst w4; exact go 3 (by omega) rfl (fun a=>rfl) rfl (fun a b r=>rfl)
 by_cases w5:l=[99,111,112,121]
 ·subst w5; exact go 4 (by omega) rfl (fun a=>rfl) rfl (fun a b r=>rfl)
 by_cases w6:l=[97,100,111,112,116]
 ·subst w6; exact go 5 (by omega) rfl (fun a=>rfl) rfl (fun a b r=>rfl)
 by_cases w7:l=[102,97,108,108]
 ·subst w7; exact go 6 (by omega) rfl (fun a=>rfl) rfl (fun a b r=>rfl)
 have ek:dM l=(0,0):=by unfold dM; rw [if_neg w1,if_neg w2,if_neg w3,if_neg w4,if_neg w5,if_neg w6,if_neg w7]
 have er:TP l t=(ZEv,false):=by
  unfold TP
  rw [if_neg w1,if_neg w2]
  match t with
  | []=>rfl
  | [a] =>
   show ACG l a KU 2=_
   simp only [KU,ACG]
   rw [if_neg (Ne.symm w3),if_neg (Ne.symm w4),if_neg (Ne.symm w5),if_neg (Ne.symm w6),if_neg (Ne.symm w7)]
  | a::b::r=>rfl
 rw [ek,er,if_neg (by simp)]
 rfl)

theorem AE9 {p:List UInt8} {x:List (List UInt8)} {n:Nat} (hx:∀ q∈x,q.length<=n):∀ q∈QJ p x,q.length<=p.length+n:=by
 cases x with
 | nil=>intro q hq; simp only [QJ,Bq] at hq; rw [hq]; omega
 | cons a t =>
  intro q hq
  simp only [QJ,BF] at hq
  rcases hq with rfl | hq
  ·have:=hx a (by simp); simp only [List.length_append]; omega
  ·have:=hx q (by simp [hq]); omega
theorem ACz (c:UInt8):∀ l,∀ q∈cut c l,q.length<=l.length
 | []=>by simp [cut]
 | b::l=>by
  have ih:=ACz c l
  unfold cut
  split
  ·intro q hq
   rcases BF.1 hq with rfl | hq
   ·simp
   ·have:=ih q hq; simp only [List.length_cons]; omega
  ·intro q hq
   have:=AE9 (p:=[b]) ih q hq
   simp only [List.length_cons,List.length_nil] at this ⊢
   omega
theorem rP {x p:ByteArray} (h:p∈(Mv x).1):p.data.toList≠[]/\p.size<=600:=by
 unfold Mv at h
 split at h
 ·cases h
 ·rename_i hx
  split at h
  ·unfold AAd at h
   split at h
   ·cases h
   ·simp only [gj,List.mem_map,List.mem_filter] at h
    obtain ⟨q,⟨hq,hn⟩,rfl⟩:=h
    refine ⟨fun e=>?_,?_⟩
    ·have e:q=[]:=e
     rw [e] at hn
     cases hn
    ·have:=ACz 32 _ q hq
     rw [AS]
     have:=Dg x
     omega
  ·cases h
theorem AC0:∀ (ps:List (List UInt8)) (acc:List Int),(goL ps acc).1.length<=acc.length+ps.length
 | [],acc=>by simp [goL]
 | p::t,acc=>by
  unfold goL
  split
  ·have:=AC0 t (acc++[(jD (Ch p)).1])
   simp only [List.length_append,List.length_cons,List.length_nil] at this ⊢
   omega
  ·simp
theorem xS {a:ByteArray} (h:a.size<=600):(Cf a).1.length<=601:=by
 have h1:=AC0 (cut 44 a.data.toList) []
 have h2:=oh 44 a.data.toList
 have h3:=Dg a
 unfold Cf
 simp only [List.length_nil] at h1
 omega
def Ix (x:ByteArray) (vs:List (List Int)) (es:List Ax):Option (List (List Int)×List Ax) :=
 if (Mv x).2=true then
  match (Mv x).1 with
  | []=>some (vs,es)
  | p::t =>
   if p.data.toList.getD 0 0=35 then some (vs,es)
   else if p.data.toList=[118,105,101,119] then (match t with
    | [a]=>if es.length=0/\(Cf a).2=true/\B_ (vs++[(Cf a).1]) (vs++[(Cf a).1]).length (vs++[(Cf a).1])=true then some (vs++[(Cf a).1],es) else none
    | _=>none)
   else if (evR (TP p.data.toList t)).2=true/\vs.length≠0/\es.length<70 then some (vs,es++[(TP p.data.toList t).1]) else none
 else none
structure gp (vs:List (List Int)) (es:List Ax) (n:Nat):Prop where
 vl:vs.length<=n
 el:es.length<=70
 w:∀ v∈vs,v.length<=601
 ok:vs.length≠0->B_ vs vs.length vs=true
 ev:∀ e∈es,IG e=true
theorem gp.step {vs vs':List (List Int)} {es es':List Ax} {n:Nat} {x:ByteArray} (h:gp vs es n) (hs:Ix x vs es=some (vs',es')):gp vs' es' (n+1):=by
 have up:gp vs es (n+1):=⟨by have:=h.vl; omega,h.el,h.w,h.ok,h.ev⟩
 unfold Ix at hs
 split at hs
 ·split at hs
  ·cases hs; exact up
  ·rename_i p t hp
   split at hs
   ·cases hs; exact up
   ·split at hs
    ·split at hs
     ·rename_i a
      split at hs
      ·rename_i hc
       cases hs
       refine ⟨by have:=h.vl; simp; omega,h.el,fun v hv=>?_,fun _=>hc.2.2,h.ev⟩
       rcases CV.1 hv with hv | hv
       ·exact h.w v hv
       ·rw [Bq.1 hv]
        exact xS (rP (x:=x) (p:=a) (by rw [hp]; simp)).2
      ·cases hs
     ·cases hs
    ·split at hs
     ·rename_i hc
      cases hs
      refine ⟨by have:=h.vl; omega,by simp; omega,h.w,h.ok,fun e he=>?_⟩
      rcases CV.1 he with he | he
      ·exact h.ev e he
      ·rw [Bq.1 he]
       have:=hc.1
       simp only [evR,AE] at this
       exact this.2
     ·cases hs
 ·cases hs
theorem bF {p:ByteArray} (h:p.data.toList≠[]):K6 p ⟨#[35]⟩=some (decide (p.data.toList.getD 0 0=35)):=iu (by
 unfold S0
 have hs:=Dg p
 have hl:0<p.data.toList.length:=List.length_pos_iff.2 h
 have e:Dx p ⟨#[35]⟩=some (decide (p.data.toList.getD 0 0=35)):=Oq (by
  unfold HC
  have h1:(⟨#[35]⟩:ByteArray).size=1:=rfl
  rw [if_pos (decide_eq_true (by rw [h1]; omega)),if_pos (by omega),if_pos (by rw [h1]; omega),if_pos (by rw [h1]; omega),h1,KT,show (⟨#[35]⟩:ByteArray)=Ch [35] from rfl,isW]
  congr 1
  rw [Bool.eq_iff_iff,decide_eq_true_eq,decide_eq_true_eq,D6]
  obtain ⟨b,r,hq⟩:=List.exists_cons_of_ne_nil h
  rw [hq]
  simp [zC])
 rw [e]
 rfl)
theorem ADm {p:ByteArray} {t:List ByteArray} {vs:List (List Int)} {es:List Ax} (hw:∀ v∈vs,v.length<=601) (hv:vs.length<=1000) (ht:∀ a∈t,a.size<=600) :
  ∃ b st,MQ (p::t) (vs,es)=some (b,st)/\((b=true/\∃ a,t=[a]/\es.length=0/\(Cf a).2=true/\B_ (vs++[(Cf a).1]) (vs++[(Cf a).1]).length (vs++[(Cf a).1])=true/\st=(vs++[(Cf a).1],es)) \/
   (b=false/\∀ a,t=[a]->¬ (es.length=0/\(Cf a).2=true/\B_ (vs++[(Cf a).1]) (vs++[(Cf a).1]).length (vs++[(Cf a).1])=true))):=by
 suffices g:∃ b st,Mp (p::t) (vs,es)=some (b,st)/\((b=true/\∃ a,t=[a]/\es.length=0/\(Cf a).2=true/\B_ (vs++[(Cf a).1]) (vs++[(Cf a).1]).length (vs++[(Cf a).1])=true/\st=(vs++[(Cf a).1],es)) \/
   (b=false/\∀ a,t=[a]->¬ (es.length=0/\(Cf a).2=true/\B_ (vs++[(Cf a).1]) (vs++[(Cf a).1]).length (vs++[(Cf a).1])=true))) from g.imp fun b g=>g.imp fun st g=>⟨k_ g.1,g.2⟩
 unfold Mp
 match t,ht with
 | [a],ht =>
  rw [if_pos (by simp)]
  by_cases he:es.length=0
  ·have ha:=ht a (by simp)
   have hlen:=xS ha
   have hvw:DL (vs++[(Cf a).1])=some (B_ (vs++[(Cf a).1]) (vs++[(Cf a).1]).length (vs++[(Cf a).1])):=Xq _ (by simp; unfold maxLen; omega) (fun v hv'=>by
    rcases CV.1 hv' with h | h
    ·have:=hw v h; unfold maxLen; omega
    ·rw [Bq.1 h]; unfold maxLen; omega)
   rw [if_neg (by rw [decide_eq_false (by show ¬ ((es.length:Int)>0); omega)]; simp)]
   cases hb:(Cf a).2 with
   | true =>
    refine ⟨B_ (vs++[(Cf a).1]) (vs++[(Cf a).1]).length (vs++[(Cf a).1]),(vs++[(Cf a).1],es),PV ?_,?_⟩
    ·unfold JF
     rw [if_pos (by omega),if_pos (by simp),show ([p,a]:List ByteArray).getD (1:Int).toNat U=a from rfl,aI a (by omega),AA,if_pos (by simp; omega),if_pos hb,hvw,AA]
    ·cases hq:B_ (vs++[(Cf a).1]) (vs++[(Cf a).1]).length (vs++[(Cf a).1]) with
     | true=>exact .inl ⟨rfl,a,rfl,he,hb,hq,rfl⟩
     | false=>exact .inr ⟨rfl,fun a' e h=>by cases e; rw [hq] at h; cases h.2.2⟩
   | false =>
    refine ⟨false,(vs++[(Cf a).1],es),PV ?_,.inr ⟨rfl,fun a' e h=>by cases e; rw [hb] at h; cases h.2.1⟩⟩
    unfold JF
    rw [if_pos (by omega),if_pos (by simp),show ([p,a]:List ByteArray).getD (1:Int).toNat U=a from rfl,aI a (by omega),AA,if_pos (by simp; omega),if_neg (by rw [hb]; simp)]
  ·exact ⟨false,(vs,es),by rw [if_pos (decide_eq_true (by show (es.length:Int)>0; omega))],.inr ⟨rfl,fun a' e h=>he h.1⟩⟩
 | [],_=>exact ⟨false,(vs,es),by rw [if_neg (by simp)],.inr ⟨rfl,fun a e=>by cases e⟩⟩
 | a::b::r,_=>exact ⟨false,(vs,es),by rw [if_neg (by simp<;>omega)],.inr ⟨rfl,fun a e=>by cases e⟩⟩
theorem ADn {x:ByteArray} {vs:List (List Int)} {es:List Ax} (h:gp vs es 200) :
  ∃ st,MM x (vs,es)=some ((Ix x vs es).isSome,st)/\∀ r,Ix x vs es=some r->st=r:=by
 suffices g:∃ st,Mm x (vs,es)=some ((Ix x vs es).isSome,st)/\∀ r,Ix x vs es=some r->st=r from g.imp fun st g=>⟨kj g.1,g.2⟩
 have hel:=h.el
 have hvl:=h.vl
 unfold Mm
 rw [om,AA]
 unfold Ix
 cases h2:(Mv x).2 with
 | false =>
  rw [if_pos (by simp),if_neg (by simp)]
  exact ⟨_,rfl,fun r hr=>by cases hr⟩
 | true =>
  rw [if_neg (by simp),if_pos rfl]
  have hm:=fun p=>rP (x:=x) (p:=p)
  revert hm
  generalize (Mv x).1=ps
  intro hm
  match ps,hm with
  | [],_ =>
   rw [if_neg (by simp)]
   exact ⟨_,rfl,fun r hr=>by cases hr; rfl⟩
  | p::t,hm =>
   have hp:=hm p (by simp)
   have ht:∀ a∈t,a.size<=600:=fun a ha=>(hm a (by simp [ha])).2
   rw [if_pos (by simp<;>omega),if_pos (by omega),if_pos (by simp<;>omega),show (p::t).getD (0:Int).toNat U=p from rfl,bF hp.1,AA]
   by_cases h35:p.data.toList.getD 0 0=35
   ·rw [if_pos (decide_eq_true h35)]
    simp only [h35,if_true]
    exact ⟨_,rfl,fun r hr=>by cases hr; rfl⟩
   ·rw [if_neg (by rw [decide_eq_false h35]; simp)]
    simp only [h35,if_false]
    by_cases hv:p.data.toList=[118,105,101,119]
    ·obtain ⟨b,st,e1,e2⟩:=ADm (p:=p) (t:=t) (es:=es) h.w (by omega) ht
     refine ⟨st,?_,?_⟩
     ·refine (JB (r:=(b,st)) ?_).trans ?_
      ·unfold EH
       rw [if_pos (by omega),if_pos (by simp<;>omega),show (p::t).getD (0:Int).toNat U=p from rfl,ACx,if_pos (decide_eq_true hv),e1]
       rfl
      ·congr 2
       rcases e2 with ⟨rfl,a,rfl,q1,q2,q3,_⟩ | ⟨rfl,q⟩
       ·simp only [hv,if_true]
        rw [if_pos ⟨q1,q2,q3⟩]
        rfl
       ·simp only [hv,if_true]
        match t,q with
        | [a],q=>simp only []; rw [if_neg (q a rfl)]; rfl
        | [],_=>rfl
        | a::b::r,_=>rfl
     ·intro r hr
      simp only [hv,if_true] at hr
      rcases e2 with ⟨rfl,a,rfl,q1,q2,q3,q4⟩ | ⟨rfl,q⟩
      ·simp only [] at hr
       rw [if_pos ⟨q1,q2,q3⟩] at hr
       cases hr
       exact q4
      ·match t,q with
       | [a],q=>simp only [] at hr; rw [if_neg (q a rfl)] at hr; cases hr
       | [],_=>cases hr
       | a::b::r,_=>cases hr
    ·simp only [hv,if_false]
     by_cases hc:(evR (TP p.data.toList t)).2=true/\vs.length≠0/\es.length<70
     ·rw [if_pos hc]
      refine ⟨(vs,es++[(TP p.data.toList t).1]),JB ?_,fun r hr=>by cases hr; rfl⟩
      unfold EH
      rw [if_pos (by omega),if_pos (by simp<;>omega),show (p::t).getD (0:Int).toNat U=p from rfl,ACx,if_neg (by rw [decide_eq_false hv]; simp),Xv,AA,if_pos (by simp; omega),if_pos hc.1,if_pos (decide_eq_true (by omega))]
      rw [decide_eq_true (by simp; omega)]
      rfl
     ·rw [if_neg hc]
      have:∀ bb,∃ st,JA (p::t) bb vs es=some (false,st):=fun bb=>by
       suffices g:∃ st,EH (p::t) bb vs es=some (false,st) from g.imp fun st g=>JB g
       unfold EH
       rw [if_pos (by omega),if_pos (by simp<;>omega),show (p::t).getD (0:Int).toNat U=p from rfl,ACx,if_neg (by rw [decide_eq_false hv]; simp),Xv,AA,if_pos (by simp; omega)]
       cases hb:(evR (TP p.data.toList t)).2 with
       | false=>exact ⟨_,by rw [if_neg (by simp)]⟩
       | true =>
        rw [if_pos rfl]
        by_cases h0:vs.length=0
        ·exact ⟨_,by rw [if_neg (by rw [decide_eq_false (by omega)]; simp)]⟩
        ·rw [if_pos (decide_eq_true (by omega))]
         exact ⟨_,by rw [decide_eq_false (by simp; have:¬ es.length<70:=fun h=>hc ⟨hb,h0,h⟩; omega)]⟩
      obtain ⟨st,hst⟩:=this _
      exact ⟨st,hst,fun r hr=>by cases hr⟩

abbrev AAf:Type:=List (List Int)×List Ax×Int
def rQ:List ByteArray->Nat->List (List Int)->List Ax->AAf
 | [],_,vs,es=>if vs.length=0 then ([],[],1) else (vs,es,0)
 | x::t,i,vs,es=>match Ix x vs es with
  | none=>([],[],(i:Int)+1)
  | some r=>rQ t (i+1) r.1 r.2
def AZ (x:ByteArray):AAf:=if 4000<x.size\/100<(LW x).length then ([],[],-1) else rQ (LW x) 0 [] []
theorem gp.nil (n:Nat):gp [] [] n:=⟨Nat.zero_le _,Nat.zero_le _,fun v hv=>by simp at hv,fun h=>absurd rfl h,fun e he=>by simp at he⟩
theorem gp.up {vs:List (List Int)} {es:List Ax} {n m:Nat} (h:gp vs es n) (hm:n<=m):gp vs es m:=⟨Nat.le_trans h.vl hm,h.el,h.w,h.ok,h.ev⟩
theorem AE_:∀ (ls:List ByteArray) (i:Nat) (vs:List (List Int)) (es:List Ax),gp vs es i->(rQ ls i vs es).2.2=0->VL (rQ ls i vs es).1/\(rQ ls i vs es).2.1.length<=70/\∀ e∈(rQ ls i vs es).2.1,IG e=true
 | [],i,vs,es,h=>by
  unfold rQ
  split
  ·intro h0; cases h0
  ·rename_i h0
   exact fun _=>⟨⟨h.ok h0⟩,h.el,h.ev⟩
 | x::t,i,vs,es,h=>by
  unfold rQ
  cases hs:Ix x vs es with
  | none=>intro h0; have h0:(i:Int)+1=0:=h0; omega
  | some r=>exact AE_ t (i+1) r.1 r.2 (h.step (vs':=r.1) (es':=r.2) hs)
theorem ABd:∀ (ls:List ByteArray) (i:Nat) (vs:List (List Int)) (es:List Ax),0<=(rQ ls i vs es).2.2/\(rQ ls i vs es).2.2<=(i:Int)+ls.length+1
 | [],i,vs,es=>by
  unfold rQ
  split
  ·simp; omega
  ·simp; omega
 | x::t,i,vs,es=>by
  unfold rQ
  cases hs:Ix x vs es with
  | none=>simp; omega
  | some r =>
   have:=ABd t (i+1) r.1 r.2
   simp only [List.length_cons]
   omega
theorem zG {ls:List ByteArray} (hl:ls.length<=100):∀ (k i:Nat) (vs:List (List Int)) (es:List Ax),i+k=ls.length->gp vs es i->G4 ls (ls.length:Int) (i:Int) vs es=some (rQ (ls.drop i) i vs es)
 | 0,i,vs,es,hk,h=>by
  refine RF ?_
  unfold KL
  rw [if_neg (by rw [decide_eq_false (by omega)]; simp),List.drop_eq_nil_of_le (by omega)]
  refine fL ?_
  unfold RC rQ
  by_cases h0:vs.length=0
  ·rw [if_pos (by simp [h0]),if_pos h0]
  ·rw [if_neg (by simpa using h0),if_neg h0]
 | k+1,i,vs,es,hk,h=>by
  have hi:i<ls.length:=by omega
  obtain ⟨st,e1,e2⟩:=ADn (x:=ls[i]) (h.up (show i<=200 by omega))
  refine RF ?_
  unfold KL
  rw [if_pos (decide_eq_true (by omega)),if_pos (by omega),if_pos (by omega),Ab,AW hi,e1,AA,Am hi,AO (by omega)]
  unfold rQ
  cases hs:Ix ls[i] vs es with
  | none =>
   rw [if_pos (by simp)]
   rfl
  | some r =>
   rw [if_neg (by simp),e2 r hs]
   exact zG hl k (i+1) r.1 r.2 (by omega) (h.step hs)
theorem ADo {ls:List ByteArray} (hl:ls.length<=100) {i:Nat} (hi:i<ls.length) {vs:List (List Int)} {es:List Ax} (h:gp vs es i) (Q:List (List Int)×List Ax->AAf)
  (hn:∀ r,Ix ls[i] vs es=some r->B6 [] ls ((i+1:Nat):Int) r.1 r.2=some (Q r)) :
  B6 [] ls (i:Int) vs es=some (match Ix ls[i] vs es with
   | none=>([],[],(i:Int)+1)
   | some r=>Q r):=by
 have hel:=h.el
 have hvl:=h.vl
 have wi:IntKind.i64.wrap ((i:Int)+1)=((i+1:Nat):Int):=AO (by omega)
 have wi2:((i+1:Nat):Int)=(i:Int)+1:=by omega
 refine Q_ ?_
 unfold KK
 rw [if_pos (decide_eq_true (by omega)),if_pos (by omega),if_pos (by omega),Ab,AW hi,ol,AA,wi]
 unfold Ix at hn ⊢
 cases h2:(Mv ls[i]).2 with
 | false =>
  rw [if_neg (by simp)]
  refine (Q9 (r:=([],[],((i+1:Nat):Int))) ?_).trans ?_
  ·unfold KJ
   rw [if_pos (by simp),wi]
  ·rw [wi2]; simp
 | true =>
  rw [h2] at hn
  rw [if_pos rfl]
  simp only [if_true] at hn ⊢
  have hm:=fun p=>rP (x:=ls[i]) (p:=p)
  revert hm hn
  generalize (Mv ls[i]).1=ps
  intro hn hm
  match ps,hm,hn with
  | [],_,hn =>
   rw [if_neg (by simp)]
   exact hn _ rfl
  | p::t,hm,hn =>
   have hp:=hm p (by simp)
   have hps:0<p.size:=by
    have:=Dg p
    have:=List.length_pos_iff.2 hp.1
    omega
   have h0:(p::t).getD (0:Int).toNat U=p:=rfl
   rw [if_pos (by simp<;>omega),if_pos (by omega),if_pos (by simp<;>omega),if_pos (by omega),h0,if_pos (by omega),show (0:Int).toNat=0 from rfl,AHh]
   simp only [] at hn ⊢
   by_cases h35:p.data.toList.getD 0 0=35
   ·rw [if_pos (decide_eq_true h35)]
    simp only [h35,if_true] at hn ⊢
    exact hn _ rfl
   ·rw [if_neg (by rw [decide_eq_false h35]; simp)]
    simp only [h35,if_false] at hn ⊢
    have J4:p.data.toList≠[118,105,101,119]\/t.length≠1->∀ b,KF [] ls (i:Int) (p::t) b vs es=some (if (evR (TP p.data.toList t)).2=true/\vs.length≠0/\es.length<70 then (if p.data.toList=[118,105,101,119] then ([],[],(i:Int)+1) else Q (vs,es++[(TP p.data.toList t).1])) else ([],[],(i:Int)+1)):=by
     intro hv b
     refine fG ?_
     unfold Q5
     rw [lZ,AA,wi,wi2]
     cases hr:(TP p.data.toList t).2 with
     | false =>
      rw [if_neg (by simp),if_neg (by unfold evR; rw [hr]; simp)]
     | true =>
      rw [if_pos (by simp),Xn,AA]
      cases ho:IG (TP p.data.toList t).1 with
      | false=>rw [if_neg (by simp),if_neg (by unfold evR; rw [ho]; simp)]
      | true =>
       have hev:(evR (TP p.data.toList t)).2=true:=by unfold evR; rw [hr,ho]; rfl
       rw [if_pos (by simp)]
       by_cases hv0:vs.length=0
       ·rw [if_neg (by simp [hv0]),if_neg (fun h=>h.2.1 hv0)]
       ·rw [if_pos (by simpa using hv0)]
        by_cases h70:es.length=70
        ·rw [if_pos (by simp [h70]),if_neg (by omega)]
        ·rw [if_neg (by simp; omega),if_pos (by simp; omega),if_pos ⟨hev,hv0,by omega⟩]
         by_cases hvw:p.data.toList=[118,105,101,119]
         ·exfalso
          have e:TP [118,105,101,119] t=(ZEv,false):=by
           match t with
           | []=>rfl
           | [a]=>rfl
           | a::b::r=>rfl
          rw [hvw,e] at hr
          cases hr
         ·rw [if_neg hvw]
          have:=hn (vs,es++[(TP p.data.toList t).1]) (by simp only [hvw,if_false]; rw [if_pos ⟨hev,hv0,by omega⟩])
          rw [wi2] at this
          exact this
    refine Q9 ?_
    unfold KJ
    rw [if_neg (by simp),if_pos (by omega),if_pos (by simp<;>omega),h0,ACx]
    by_cases hv:p.data.toList=[118,105,101,119]
    ·rw [if_pos (decide_eq_true hv)]
     simp only [hv,if_true] at hn ⊢
     refine Q8 ?_
     unfold KI
     match t,hm,hn,J4 with
     | [a],hm,hn,J4 =>
      have ha:=(hm a (by simp)).2
      have hlen:=xS ha
      have hvw:DK (vs++[(Cf a).1])=some (B_ (vs++[(Cf a).1]) (vs++[(Cf a).1]).length (vs++[(Cf a).1])):=Xp _ (by simp; unfold maxLen; omega) (fun v hv'=>by
       rcases CV.1 hv' with h' | h'
       ·have:=h.w v h'; unfold maxLen; omega
       ·rw [Bq.1 h']; unfold maxLen; omega)
      rw [if_pos (by simp),if_pos (by omega),if_pos (by simp),show ([p,a]:List ByteArray).getD (1:Int).toNat U=a from rfl,jE a (by omega),AA,if_pos (by simp; omega),wi]
      simp only [] at hn ⊢
      cases hb:(Cf a).2 with
      | false =>
       rw [if_neg (by simp),if_neg (by simp),wi2]
      | true =>
       rw [if_pos (by simp)]
       by_cases he:es.length=0
       ·rw [if_pos (by rw [decide_eq_false (by omega)]),hvw,AA]
        cases hq:B_ (vs++[(Cf a).1]) (vs++[(Cf a).1]).length (vs++[(Cf a).1]) with
        | false=>rw [if_pos (by simp),if_neg (by simp),wi2]
        | true =>
         rw [if_neg (by simp),if_pos ⟨he,rfl,rfl⟩]
         exact hn (vs++[(Cf a).1],es) (by rw [if_pos ⟨he,hb,hq⟩])
       ·rw [if_neg (by rw [decide_eq_true (by omega)]; simp),if_neg (fun h=>he h.1),wi2]
     | [],hm,hn,J4 =>
      rw [if_neg (by simp),J4 (.inr (by simp)),hv]
      simp
     | a::b::r,hm,hn,J4 =>
      rw [if_neg (by simp<;>omega),J4 (.inr (by simp)),hv]
      simp
    ·rw [if_neg (by rw [decide_eq_false hv]; simp)]
     simp only [hv,if_false] at hn ⊢
     refine Q8 ?_
     unfold KI
     rw [if_neg (by simp),J4 (.inl hv)]
     split
     ·rfl
     ·rfl
theorem zH {ls:List ByteArray} (hl:ls.length<=100):∀ (k i:Nat) (vs:List (List Int)) (es:List Ax),i+k=ls.length->gp vs es i->B6 [] ls (i:Int) vs es=some (rQ (ls.drop i) i vs es)
 | 0,i,vs,es,hk,h=>by
  refine Q_ ?_
  unfold KK
  rw [if_neg (by rw [decide_eq_false (by omega)]; simp),List.drop_eq_nil_of_le (by omega)]
  refine fH ?_
  unfold Q6 rQ
  by_cases h0:vs.length=0
  ·rw [if_pos (by simp [h0]),if_pos h0]
  ·rw [if_neg (by simpa using h0),if_neg h0]
 | k+1,i,vs,es,hk,h=>by
  have hi:i<ls.length:=by omega
  rw [Am hi]
  unfold rQ
  exact ADo hl hi h (fun r=>rQ (ls.drop (i+1)) (i+1) r.1 r.2) fun r hr=>zH hl k (i+1) r.1 r.2 (by omega) (h.step hr)
theorem KV (x:ByteArray) (hx:x.size<=1048576):Gv x=some (AZ x):=mw (by
 unfold Wr AZ
 by_cases h:4000<x.size
 ·rw [if_neg (by rw [decide_eq_true (by omega)]; simp),if_pos (.inl h)]
 ·rw [if_pos (decide_eq_false (by omega)),VK x hx,AA]
  by_cases hl:100<(LW x).length
  ·rw [if_pos (decide_eq_true (by omega)),if_pos (.inr hl)]
  ·rw [if_neg (by rw [decide_eq_false (by omega)]; simp),if_neg (by omega)]
   refine fI ?_
   unfold Q7
   rw [VK x hx,AA]
   exact zH (by omega) (LW x).length 0 [] [] (by omega) (gp.nil 0))
theorem gq (x:ByteArray) (hx:x.size<=1048576):N5 x=some (AZ x):=m8 (by
 have hc:=oh 10 x.data.toList
 have hs:=Dg x
 have hne:=gf 10 x.data.toList
 have hlen:(gh 10 x).length=(cut 10 x.data.toList).length:=by simp [gh]
 have J0:G5 x (LW x)=some (AZ x):=fN (by
  unfold RE AZ
  by_cases h:4000<x.size
  ·rw [if_neg (by rw [decide_eq_true (by omega)]; simp),if_pos (.inl h)]
  ·rw [if_pos (decide_eq_false (by omega))]
   by_cases hl:100<(LW x).length
   ·rw [if_pos (decide_eq_true (by omega)),if_pos (.inr hl)]
   ·rw [if_neg (by rw [decide_eq_false (by omega)]; simp),if_neg (by omega)]
    refine fM ?_
    unfold RD
    exact zG (by omega) (LW x).length 0 [] [] (by omega) (gp.nil 0))
 have w:IntKind.i64.wrap (((gh 10 x).length:Int)-1)=(((gh 10 x).length-1:Nat):Int):=by rw [Aa (by omega)]; omega
 have hi:(gh 10 x).length-1<(gh 10 x).length:=by omega
 have hi2:(cut 10 x.data.toList).length-1<(cut 10 x.data.toList).length:=by omega
 have elast:(gh 10 x)[(gh 10 x).length-1]=Ch ((cut 10 x.data.toList)[(cut 10 x.data.toList).length-1]):=by
  simp [gh]
 have el2:(cut 10 x.data.toList).getLast? = some ((cut 10 x.data.toList)[(cut 10 x.data.toList).length-1]):=by
  rw [List.getLast?_eq_getElem?,List.getElem?_eq_getElem hi2]
 unfold Ww
 rw [LV _ _ (by omega),AA,w,if_pos (by omega),if_pos (by omega),Ab,AW hi,elast,show (⟨#[]⟩:ByteArray)=Ch [] from rfl,isW,D6]
 by_cases he:(cut 10 x.data.toList)[(cut 10 x.data.toList).length-1]=[]
 ·rw [if_pos (decide_eq_true he),if_pos (by omega),if_pos (by omega),if_pos (by omega)]
  have e:((gh 10 x).take ((gh 10 x).length-1)).drop (0:Int).toNat=LW x:=by
   unfold LW
   rw [lW hne,el2,he,if_pos rfl]
   simp [gh,List.dropLast_eq_take,List.map_take]
  rw [e]
  exact J0
 ·rw [if_neg (by rw [decide_eq_false he]; simp)]
  have e:gh 10 x=LW x:=by
   unfold LW
   rw [lW hne,el2,if_neg (by simpa using he)]
   rfl
  rw [e]
  exact J0)
theorem iA {x:ByteArray} (h:(AZ x).2.2=0):VL (AZ x).1/\(AZ x).2.1.length<=70/\∀ e∈(AZ x).2.1,IG e=true:=by
 unfold AZ at h ⊢
 split at h
 ·cases h
 ·rename_i hc
  rw [if_neg hc]
  exact AE_ _ 0 [] [] (gp.nil 0) h
theorem gt (x:ByteArray):-1<=(AZ x).2.2/\(AZ x).2.2<=101:=by
 unfold AZ
 split
 ·simp
 ·rename_i hc
  have:=ABd (LW x) 0 [] []
  omega

theorem QZ (b:ByteArray):(Cq b).length=b.size:=by simp [Cq]
theorem xT (b:ByteArray):Dp (Cq b)=b:=by
 apply ByteArray.ext
 apply Array.ext'
 simp only [Dp,Cq,List.map_map]
 have:((fun n:Int=>UInt8.ofNat n.toNat) ∘ fun u:UInt8=>(u.toNat:Int))=id:=by funext u; simp
 rw [this,List.map_id]
theorem AAg (b:ByteArray):rT (Cq b)=true:=by
 simp only [rT,Cq,List.all_map,Bp,Function.comp,AE,decide_eq_true_eq]
 intro u _
 have:u.toNat<256:=u.toNat_lt
 omega
theorem yc (a b:ByteArray):Cq (a++b)=Cq a++Cq b:=by
 simp [Cq,ByteArray.data_append]

theorem HL (l:List UInt8) (y:ByteArray):Ch l++y=Ch (l++y.data.toList):=by
 rw [B9,VH]
def yd (l:List UInt8):List Int:=Cq (Ch l)
theorem ABe (l:List UInt8) (y:ByteArray):yd l++Cq y=yd (l++y.data.toList):=by
 unfold yd
 rw [<- yc,HL]
theorem ABf (l:List UInt8):(yd l).length=l.length:=by unfold yd; rw [QZ,AS]
theorem ACH (u:Nat):(Go.Lib.decDigits u).length<=u+1:=by
 induction u using Nat.strongRecOn with
 | _ u ih =>
  by_cases h:u<10
  ·rw [Go.Lib.decDigits_one h]; simp
  ·rw [Go.Lib.decDigits.eq_def,dif_neg h]
   have:=ih (u / 10) (by omega)
   simp only [List.length_append,List.length_cons,List.length_nil]
   omega
theorem xU {n:Int} (h:-1000<=n/\n<=1000):(Go.Lib.itoa n).length<=1002:=by
 unfold Go.Lib.itoa
 split
 ·have:=ACH n.natAbs
  simp only [List.length_cons]
  omega
 ·have:=ACH n.toNat
  omega
theorem Ir {n:Int} (h:0<=n/\n<10):(Go.Lib.itoa n).length=1:=by
 unfold Go.Lib.itoa
 rw [if_neg (by omega),Go.Lib.decDigits_one (by omega)]
 rfl
theorem aJ {n:Int} (h:0<=n/\n<10):BB n=some (Ch (Go.Lib.itoa n)):=by
 obtain ⟨q,rfl⟩:∃ q:Nat,n=(q:Int):=⟨n.toNat,by omega⟩
 exact HK (by omega)
def la:List Int->List UInt8
 | []=>[]
 | c::cs=>Go.Lib.itoa c++cs.flatMap fun n=>32::Go.Lib.itoa n
def AC1 (cs:List Int):List UInt8:=if cs.length=0 then [] else la cs++[10]
def Pn (c:O6):List UInt8 :=
 if 0<=c.2.2.2.2.1 then (if c.1=1 then [112,117,116,32]++c.2.1.data.toList++[10] else [103,101,116,32]++c.2.1.data.toList++[32]++c.2.2.2.2.2.2.2.2.data.toList++[10]) else []
def t7 (m:AI):List UInt8:=if m.2.2.2.2.2.1=true then [115,101,114,118,101,115,32]++Go.Lib.itoa m.1++[10] else []
def ABg (g:Aj) (cs:List Int):List UInt8:=AC1 cs++g.2.2.2.flatMap Pn++g.2.1.flatMap t7
theorem zI {c:O6} (h:SmC c):(Pn c).length<=40:=by
 obtain ⟨_,h2,h3⟩:=h
 rw [EM] at h2 h3
 unfold Pn
 (repeat' split)<;>simp only [List.length_append,List.length_cons,List.length_nil]<;>omega
theorem xV {g:Aj} {ws:List ByteArray} (hm:∀ m∈g.2.1,0<=m.1/\m.1<10):∀ (k i:Nat) (l:List UInt8),i+k=g.2.1.length->g.2.1.length<=10->l.length<=20000+10*i->G1 g.2.1 (g.2.1.length:Int) (i:Int) g ws (yd l)=some (Ch (l++(g.2.1.drop i).flatMap t7))
 | 0,i,l,hk,h6,hl=>by
  refine Wo ?_
  unfold OI
  rw [if_neg (by rw [decide_eq_false (by omega)]; simp),List.drop_eq_nil_of_le (by omega),TH,AA,if_pos (by unfold yd; exact AAg _)]
  unfold yd
  rw [xT]
  simp
 | k+1,i,l,hk,h6,hl=>by
  have hi:i<g.2.1.length:=by omega
  have hid:=hm g.2.1[i] (BC hi)
  refine Wo ?_
  unfold OI
  rw [if_pos (decide_eq_true (by omega)),if_pos (by omega),if_pos (by omega),Ab,AW hi,Am hi,AO (by omega),List.flatMap_cons]
  by_cases hs:g.2.1[i].2.2.2.2.2.1=true
  ·have s7:(⟨#[115,101,114,118,101,115,32]⟩:ByteArray)=Ch [115,101,114,118,101,115,32]:=rfl
   have s1:(⟨#[10]⟩:ByteArray)=Ch [10]:=rfl
   have hq:=Ir hid
   rw [if_pos hs,Jw (by omega) (by omega),AA,s7,s1,if_pos (by simp only [AS,hq]; decide),<- B9,if_pos (by simp only [AS,List.length_append,hq]; decide),<- B9,Du,AA,
    if_pos (by rw [ABf,QZ,AS]; simp only [List.length_append,hq,List.length_cons,List.length_nil]; omega),ABe,D6]
   rw [xV hm k (i+1) _ (by omega) h6 (by simp only [List.length_append,hq,List.length_cons,List.length_nil]; omega)]
   unfold t7
   rw [if_pos hs]
   simp
  ·rw [if_neg hs,xV hm k (i+1) l (by omega) h6 (by omega)]
   unfold t7
   rw [if_neg hs]
   simp
theorem rR {g:Aj} {ws:List ByteArray} (hm:∀ m∈g.2.1,0<=m.1/\m.1<10) (h6:g.2.1.length<=10) (hc:∀ c∈g.2.2.2,SmC c) (h70:g.2.2.2.length<=70):∀ (k i:Nat) (l:List UInt8),i+k=g.2.2.2.length->l.length<=10000+40*i ->
  G2 g.2.2.2 (g.2.2.2.length:Int) (i:Int) g ws (yd l)=some (Ch (l++(g.2.2.2.drop i).flatMap Pn++g.2.1.flatMap t7))
 | 0,i,l,hk,hl=>by
  refine Wp ?_
  unfold OJ
  rw [if_neg (by rw [decide_eq_false (by omega)]; simp),List.drop_eq_nil_of_le (by omega)]
  refine mq ?_
  unfold Wl
  have:=xV (ws:=ws) hm g.2.1.length 0 l (by omega) h6 (by omega)
  refine Eq.trans this ?_
  simp
 | k+1,i,l,hk,hl=>by
  have hi:i<g.2.2.2.length:=by omega
  have hsm:=hc g.2.2.2[i] (BC hi)
  have hlen:=zI hsm
  obtain ⟨o1,o2,o3⟩:=hsm
  refine Wp ?_
  unfold OJ
  rw [if_pos (decide_eq_true (by omega)),if_pos (by omega),if_pos (by omega),Ab,AW hi,Am hi,AO (by omega),List.flatMap_cons,
   show X2 g.2.2.2[i]=some (decide (g.2.2.2[i].2.2.2.2.1>=0)) from yI rfl,AA]
  by_cases hd:0<=g.2.2.2[i].2.2.2.2.1
  ·have hct:Ri g.2.2.2[i]=some (Ch (Pn g.2.2.2[i])):=su (by
    unfold cN Pn
    rw [if_pos hd]
    have s4:(⟨#[112,117,116,32]⟩:ByteArray)=Ch [112,117,116,32]:=rfl
    have g4:(⟨#[103,101,116,32]⟩:ByteArray)=Ch [103,101,116,32]:=rfl
    have s1:(⟨#[10]⟩:ByteArray)=Ch [10]:=rfl
    have b1:(⟨#[32]⟩:ByteArray)=Ch [32]:=rfl
    rw [s4,g4,s1,b1]
    rw [EM] at o2 o3
    by_cases h1:g.2.2.2[i].1=1
    ·rw [if_pos (by simp [h1]),if_pos h1,HL,HL,D6,if_pos (by rw [AS,EM]; simp only [List.length_cons,List.length_nil]; omega),if_pos (by rw [AS,AS]; simp only [List.length_append,List.length_cons,List.length_nil]; omega)]
    ·rw [if_neg (by simpa using h1),if_neg h1,HL,HL,HL,HL,D6,D6,if_pos (by rw [AS,EM]; simp only [List.length_cons,List.length_nil]; omega),if_pos (by rw [AS,AS]; simp only [List.length_append,List.length_cons,List.length_nil]; omega),
      if_pos (by rw [AS,EM]; simp only [List.length_append,List.length_cons,List.length_nil]; omega),if_pos (by rw [AS,AS]; simp only [List.length_append,List.length_cons,List.length_nil]; omega)])
   rw [if_pos (decide_eq_true hd),hct,AA,Du,AA,if_pos (by rw [ABf,QZ,AS]; omega),ABe,D6,
    rR hm h6 hc h70 k (i+1) _ (by omega) (by simp only [List.length_append]; omega)]
   simp
  ·rw [if_neg (by rw [decide_eq_false (by omega)]; simp),rR hm h6 hc h70 k (i+1) l (by omega) (by omega)]
   have:Pn g.2.2.2[i]=[]:=by unfold Pn; rw [if_neg hd]
   rw [this]
   simp
theorem AGQ (c:Int) (cs:List Int):Go.Lib.join (((c::cs).map fun n=>Ch (Go.Lib.itoa n)).map (·.data.toList)) (⟨#[32]⟩:ByteArray).data.toList=la (c::cs):=by
 rw [List.map_map,List.map_cons,Go.Lib.join_cons]
 unfold la Go.Lib.joinTail
 congr 1
 rw [List.map_map,List.flatMap_def]
 rfl
theorem ABh:∀ {cs:List Int},(∀ c∈cs,0<=c/\c<10)->(la cs).length<=2*cs.length
 | [],_=>by simp [la]
 | c::cs,h=>by
  have key:∀ l:List Int,(∀ c∈l,0<=c/\c<10)->(l.flatMap fun n=>(32:UInt8)::Go.Lib.itoa n).length<=2*l.length:=by
   intro l
   induction l with
   | nil=>intro _; simp
   | cons a l ih =>
    intro hl
    have:=ih fun x hx=>hl x (by simp [hx])
    rw [List.flatMap_cons,List.length_append,List.length_cons,Ir (hl a (by simp)),List.length_cons]
    omega
  have:=key cs fun x hx=>h x (by simp [hx])
  unfold la
  rw [List.length_append,Ir (h c (by simp)),List.length_cons]
  omega
theorem zJ {g:Aj} {cs:List Int} (hcs:∀ c∈cs,0<=c/\c<10) (hcl:cs.length<=70) (hm:∀ m∈g.2.1,0<=m.1/\m.1<10) (h6:g.2.1.length<=10) (hc:∀ c∈g.2.2.2,SmC c) (h70:g.2.2.2.length<=70):∀ (k i:Nat),i+k=cs.length ->
  JW cs (cs.length:Int) (i:Int) g ((cs.take i).map fun n=>Ch (Go.Lib.itoa n))=some (Ch (ABg g cs))
 | 0,i,hk=>by
  have J2:∀ ws l,l.length<=10000->JV g ws (yd l)=some (Ch (l++g.2.2.2.flatMap Pn++g.2.1.flatMap t7)):=fun ws l hl=>by
   refine mr ?_
   unfold Wm
   have:=rR (ws:=ws) hm h6 hc h70 g.2.2.2.length 0 l (by omega) (by omega)
   refine Eq.trans this ?_
   simp
  refine Wq ?_
  unfold OK
  rw [if_neg (by rw [decide_eq_false (by omega)]; simp),List.take_of_length_le (by omega)]
  refine mt ?_
  unfold Wn ABg AC1
  cases hq:cs with
  | nil =>
   rw [if_neg (by simp)]
   exact (J2 _ [] (by simp)).trans (by simp)
  | cons c r =>
   have hlen:=ABh hcs
   rw [hq] at hlen hcl
   have hj:=AGQ c r
   rw [if_pos (by simp<;>omega),vv (by simp) (by simp only [List.length_map]; omega) (by rw [hj]; simp only [List.length_cons] at hlen hcl; omega),hj,AA,show (⟨(la (c::r)).toArray⟩:ByteArray)=Ch (la (c::r)) from rfl,show (⟨#[10]⟩:ByteArray)=Ch [10] from rfl,
    if_pos (by rw [AS,AS]; simp only [List.length_cons,List.length_nil] at hlen hcl ⊢; omega),<- B9,Du,AA,if_pos (by rw [QZ,AS]; simp only [List.length_append,List.length_cons,List.length_nil] at hlen hcl ⊢; omega),
    if_neg (by simp)]
   exact J2 _ (la (c::r)++[10]) (by simp only [List.length_append,List.length_cons,List.length_nil] at hlen hcl ⊢; omega)
 | k+1,i,hk=>by
  have hi:i<cs.length:=by omega
  have hci:=hcs cs[i] (BC hi)
  refine Wq ?_
  unfold OK
  rw [if_pos (decide_eq_true (by omega)),if_pos (by omega),if_pos (by omega),Ab,AW hi,Jw (by omega) (by omega),AA,if_pos (by simp; omega),AO (by omega)]
  have:=zJ hcs hcl hm h6 hc h70 k (i+1) (by omega)
  rw [List.take_succ_eq_append_getElem hi,List.map_append] at this
  exact this
theorem xW {g:Aj} (hm:∀ m∈g.2.1,0<=m.1/\m.1<10):∀ (k i:Nat) (l:List UInt8),i+k=g.2.1.length->g.2.1.length<=10->l.length<=20000+10*i->Gz (Ch l) (i:Int) g=some (Ch (l++(g.2.1.drop i).flatMap t7))
 | 0,i,l,hk,h6,hl=>by
  refine Wh ?_
  unfold OF
  rw [if_neg (by rw [decide_eq_false (by omega)]; simp),List.drop_eq_nil_of_le (by omega)]
  simp
 | k+1,i,l,hk,h6,hl=>by
  have hi:i<g.2.1.length:=by omega
  have hid:=hm g.2.1[i] (BC hi)
  refine Wh ?_
  unfold OF
  rw [if_pos (decide_eq_true (by omega)),if_pos (by omega),if_pos (by omega),Ab,AW hi,Am hi,AO (by omega),List.flatMap_cons]
  by_cases hs:g.2.1[i].2.2.2.2.2.1=true
  ·have s7:(⟨#[115,101,114,118,101,115,32]⟩:ByteArray)=Ch [115,101,114,118,101,115,32]:=rfl
   have s1:(⟨#[10]⟩:ByteArray)=Ch [10]:=rfl
   have hq:=Ir hid
   rw [if_pos hs,s7,s1,if_pos (by rw [AS,AS]; simp only [List.length_cons,List.length_nil]; omega),if_pos (by omega),if_pos (by omega),aJ hid,AA,<- B9,if_pos (by rw [AS,AS,hq]; simp only [List.length_append,List.length_cons,List.length_nil]; omega),<- B9,
    if_pos (by rw [AS,AS]; simp only [List.length_append,hq,List.length_cons,List.length_nil]; omega),<- B9]
   rw [xW hm k (i+1) _ (by omega) h6 (by simp only [List.length_append,hq,List.length_cons,List.length_nil]; omega)]
   unfold t7
   rw [if_pos hs]
   simp
  ·rw [if_neg hs,xW hm k (i+1) l (by omega) h6 (by omega)]
   unfold t7
   rw [if_neg hs]
   simp
theorem zK {g:Aj} (hm:∀ m∈g.2.1,0<=m.1/\m.1<10) (h6:g.2.1.length<=10) (hc:∀ c∈g.2.2.2,SmC c) (h70:g.2.2.2.length<=70):∀ (k i:Nat) (l:List UInt8),i+k=g.2.2.2.length->l.length<=10000+40*i ->
  D0 (Ch l) (i:Int) g=some (Ch (l++(g.2.2.2.drop i).flatMap Pn++g.2.1.flatMap t7))
 | 0,i,l,hk,hl=>by
  refine Wi ?_
  unfold OG
  rw [if_neg (by rw [decide_eq_false (by omega)]; simp),List.drop_eq_nil_of_le (by omega)]
  have:=xW hm g.2.1.length 0 l (by omega) h6 (by omega)
  refine Eq.trans this ?_
  simp
 | k+1,i,l,hk,hl=>by
  have hi:i<g.2.2.2.length:=by omega
  have hsm:=hc g.2.2.2[i] (BC hi)
  have hlen:=zI hsm
  obtain ⟨o1,o2,o3⟩:=hsm
  rw [EM] at o2 o3
  have ih:=fun l' h=>zK hm h6 hc h70 k (i+1) l' (by omega) h
  have s4:(⟨#[112,117,116,32]⟩:ByteArray)=Ch [112,117,116,32]:=rfl
  have g4:(⟨#[103,101,116,32]⟩:ByteArray)=Ch [103,101,116,32]:=rfl
  have s1:(⟨#[10]⟩:ByteArray)=Ch [10]:=rfl
  have b1:(⟨#[32]⟩:ByteArray)=Ch [32]:=rfl
  have none':∀ l' b,l'.length<=10000+40*(i+1)->b=false->JQ (Ch l') (i:Int) b g g.2.2.2[i]=some (Ch (l'++(g.2.2.2.drop (i+1)).flatMap Pn++g.2.1.flatMap t7)):=fun l' b h hb=>by
   refine Wg ?_
   unfold OE
   rw [if_neg (by rw [hb]; simp),AO (by omega),ih l' h]
  refine Wi ?_
  unfold OG
  rw [if_pos (decide_eq_true (by omega)),if_pos (by omega),if_pos (by omega),Ab,AW hi,Am hi,List.flatMap_cons]
  by_cases hd:0<=g.2.2.2[i].2.2.2.2.1
  ·rw [if_pos (decide_eq_true hd)]
   by_cases h1:g.2.2.2[i].1=1
   ·have hct:Pn g.2.2.2[i]=[112,117,116,32]++g.2.2.2[i].2.1.data.toList++[10]:=by unfold Pn; rw [if_pos hd,if_pos h1]
    rw [if_pos (by simp [h1]),s4,s1,if_pos (by rw [AS,AS]; simp only [List.length_cons,List.length_nil]; omega),HL,HL,if_pos (by rw [AS,EM]; simp only [D6,List.length_append,List.length_cons,List.length_nil]; omega),HL,
     if_pos (by rw [AS,AS]; simp only [D6,List.length_append,List.length_cons,List.length_nil]; omega),D6,D6]
    refine OH ?_
    unfold JT
    rw [if_pos (decide_eq_true hd),none' _ _ (by simp only [List.length_append,List.length_cons,List.length_nil]; omega) (by rw [h1]; rfl),hct]
    simp
   ·have h2:g.2.2.2[i].1=2:=by omega
    have hct:Pn g.2.2.2[i]=[103,101,116,32]++g.2.2.2[i].2.1.data.toList++[32]++g.2.2.2[i].2.2.2.2.2.2.2.2.data.toList++[10]:=by unfold Pn; rw [if_pos hd,if_neg h1]
    rw [if_neg (by simpa using h1)]
    refine OH ?_
    unfold JT
    rw [if_pos (decide_eq_true hd)]
    refine Wg ?_
    unfold OE
    rw [if_pos (by rw [h2]; rfl),g4,s1,b1,if_pos (by rw [AS,AS]; simp only [List.length_cons,List.length_nil]; omega),HL,if_pos (by rw [AS,EM]; simp only [D6,List.length_append,List.length_cons,List.length_nil]; omega),HL,
     if_pos (by rw [AS,AS]; simp only [D6,List.length_append,List.length_cons,List.length_nil]; omega),HL,if_pos (by rw [AS,EM]; simp only [D6,List.length_append,List.length_cons,List.length_nil]; omega),HL,
     if_pos (by rw [AS,AS]; simp only [D6,List.length_append,List.length_cons,List.length_nil]; omega),HL,AO (by omega)]
    simp only [D6]
    rw [ih _ (by simp only [List.length_append,List.length_cons,List.length_nil]; omega),hct]
    simp
  ·have:Pn g.2.2.2[i]=[]:=by unfold Pn; rw [if_neg hd]
   rw [if_neg (by rw [decide_eq_false (by omega)]; simp)]
   refine OH ?_
   unfold JT
   rw [if_neg (by rw [decide_eq_false (by omega)]; simp),none' _ _ (by omega) rfl,this]
   simp
theorem zL {g:Aj} {cs:List Int} (hcs:∀ c∈cs,0<=c/\c<10) (hcl:cs.length<=70):∀ (k i:Nat) (l:List UInt8),i+k=cs.length->1<=i->l.length<=2*i->∀ r,JS cs (Ch (l++(cs.drop i).flatMap fun n=>32::Go.Lib.itoa n)) g=some r->Ex cs (Ch l) (i:Int) g=some r
 | 0,i,l,hk,h1,hl,r,h=>by
  rw [List.drop_eq_nil_of_le (by omega)] at h
  refine JU ?_
  unfold G0
  rw [if_neg (by rw [decide_eq_false (by omega)]; simp)]
  simpa using h
 | k+1,i,l,hk,h1,hl,r,h=>by
  have hi:i<cs.length:=by omega
  have hci:=hcs cs[i] (BC hi)
  have hq:=Ir hci
  have b1:(⟨#[32]⟩:ByteArray)=Ch [32]:=rfl
  rw [Am hi,List.flatMap_cons] at h
  refine JU ?_
  unfold G0
  rw [if_pos (decide_eq_true (by omega)),if_pos (decide_eq_true (by omega)),b1,if_pos (by rw [AS,AS]; simp only [List.length_cons,List.length_nil]; omega),if_pos (by omega),if_pos (by omega),Ab,AW hi,aJ hci,AA,<- B9,
   if_pos (by rw [AS,AS,hq]; simp only [List.length_append,List.length_cons,List.length_nil]; omega),<- B9,AO (by omega)]
  refine zL hcs hcl k (i+1) _ (by omega) (by omega) (by simp only [List.length_append,hq,List.length_cons,List.length_nil]; omega) r ?_
  rw [<- h]
  simp
theorem ADp {g:Aj} {cs:List Int} (hcs:∀ c∈cs,0<=c/\c<10) (hcl:cs.length<=70) (hm:∀ m∈g.2.1,0<=m.1/\m.1<10) (h6:g.2.1.length<=10) (hc:∀ c∈g.2.2.2,SmC c) (h70:g.2.2.2.length<=70) :
  Ex cs ⟨#[]⟩ 0 g=some (Ch (ABg g cs)):=by
 have L2:∀ l,l.length<=10000->D0 (Ch l) 0 g=some (Ch (l++g.2.2.2.flatMap Pn++g.2.1.flatMap t7)):=fun l hl=>by
  have:=zK hm h6 hc h70 g.2.2.2.length 0 l (by omega) (by omega)
  refine Eq.trans this ?_
  simp
 have hlen:=ABh hcs
 have J1:JS cs (Ch (la cs)) g=some (Ch (ABg g cs)):=mj (by
  unfold Wf ABg AC1
  by_cases h0:cs.length=0
  ·have e:cs=[]:=DD.1 h0
   rw [if_neg (by rw [decide_eq_false (by omega)]; simp),if_pos h0,e]
   exact L2 [] (by simp)
  ·rw [if_pos (decide_eq_true (by omega)),if_neg h0,show (⟨#[10]⟩:ByteArray)=Ch [10] from rfl,if_pos (by rw [AS,AS]; simp only [List.length_cons,List.length_nil]; omega),<- B9]
   exact L2 _ (by simp only [List.length_append,List.length_cons,List.length_nil]; omega))
 cases hq:cs with
 | nil =>
  rw [hq] at J1
  refine JU ?_
  unfold G0
  rw [if_neg (by simp)]
  exact J1
 | cons c r =>
  rw [hq] at J1 hcs hcl
  have hci:=hcs c (by simp)
  have hqq:=Ir hci
  refine JU ?_
  unfold G0
  rw [if_pos (by simp<;>omega),if_neg (by simp),if_pos (by omega),if_pos (by simp<;>omega),show (c::r).getD (0:Int).toNat 0=c from rfl,aJ hci,AA,show (⟨#[]⟩:ByteArray)=Ch [] from rfl,if_pos (by rw [AS,AS,hqq]; decide),<- B9,List.nil_append,show IntKind.i64.wrap (0+1)=((1:Nat):Int) from rfl]
  exact zL hcs hcl r.length 1 (Go.Lib.itoa c) (by simp only [List.length_cons]; omega) (by omega) (by omega) _ (by
   rw [List.drop_succ_cons,List.drop_zero]
   exact J1)
theorem sC {g:Aj} {at_:Int} {m:AI} {node:Int}:∀ (k:Nat) (e:Int),(IF g at_ m node k e).1=0\/(IF g at_ m node k e).1=1
 | 0,e=>.inr rfl
 | k+1,e=>by
  unfold IF
  split
  ·exact sC k (e+1)
  ·split
   ·exact .inl rfl
   ·exact .inr rfl
theorem AFA (g:Aj) (at_:Int) (e:Ax):(r8 g at_ e).1=0\/(r8 g at_ e).1=1:=by
 unfold r8
 split
 ·unfold LU
  split
  ·exact .inl rfl
  ·exact .inr rfl
 ·split
  ·exact sC _ _
  ·split
   ·exact .inl rfl
   ·unfold jA
    (repeat' split)<;>first | exact .inl rfl | exact .inr rfl
theorem xX:∀ (es:List Ax) (n:Nat) (g:Aj) (cs:List Int),(∀ c∈cs,0<=c/\c<10)->∀ c∈(Fv n es g cs).2,0<=c/\c<10
 | [],_,_,_,h=>h
 | e::es,n,g,cs,h=>xX es (n+1) _ _ fun c hc=>by
  rcases CV.1 hc with hc | hc
  ·exact h c hc
  ·rw [Bq.1 hc]
   rcases AFA g (n:Int) e with h | h<;>rw [h]<;>omega
def ACI (n:Int):List UInt8:=[102,97,117,108,116,32]++Go.Lib.itoa n++[10]
def Et (x:ByteArray):ByteArray :=
 if (AZ x).2.2=0 then Ch (ABg (Fv 0 (AZ x).2.1 (Ar (AZ x).1) []).1 (Fv 0 (AZ x).2.1 (Ar (AZ x).1) []).2) else Ch (ACI (AZ x).2.2)
theorem rS {x:ByteArray} (h:(AZ x).2.2=0):(∀ c∈(Fv 0 (AZ x).2.1 (Ar (AZ x).1) []).2,0<=c/\c<10)/\(Fv 0 (AZ x).2.1 (Ar (AZ x).1) []).2.length<=70/\(∀ m∈(Fv 0 (AZ x).2.1 (Ar (AZ x).1) []).1.2.1,0<=m.1/\m.1<10) /\
  (Fv 0 (AZ x).2.1 (Ar (AZ x).1) []).1.2.1.length<=10/\(∀ c∈(Fv 0 (AZ x).2.1 (Ar (AZ x).1) []).1.2.2.2,SmC c)/\(Fv 0 (AZ x).2.1 (Ar (AZ x).1) []).1.2.2.2.length<=70:=by
 obtain ⟨hv,hl,he⟩:=iA h
 obtain ⟨r1,_,r3⟩:=oS (AZ x).2.1 0 (Ar (AZ x).1) [] (TV hv) (by omega) he
 have hs:=xg.run (AZ x).2.1 0 (Ar (AZ x).1) [] (TV hv) (xg.new _) (by omega) he
 refine ⟨xX _ 0 _ [] (fun c hc=>by cases hc),by rw [r3]; simpa using hl,fun m hm=>?_,by rw [r1.six]; omega,hs.calls,by have:=r1.clen; omega⟩
 obtain ⟨i,hi,rfl⟩:=EX hm
 have h6:=r1.six
 have:=(r1.mem i (by omega)).2
 unfold Cc at this
 rw [AW hi] at this
 omega
theorem Xw (x:ByteArray) (hx:x.size<=1048576):N4 x=some (Et x):=v6 (by
 unfold fF Et
 rw [gq x hx,AA]
 by_cases h0:(AZ x).2.2=0
 ·obtain ⟨hv,hl,he⟩:=iA h0
  obtain ⟨f1,f2,f3,f4,f5,f6⟩:=rS h0
  rw [if_neg (by simp [h0]),if_pos h0,Xt hv hl he,AA]
  exact zJ f1 f2 f3 f4 f5 f6 (Fv 0 (AZ x).2.1 (Ar (AZ x).1) []).2.length 0 (by omega)
 ·have hcode:=gt x
  have hlen:=xU (n:=(AZ x).2.2) (by omega)
  rw [if_pos (by simpa using h0),if_neg h0,Jw (by omega) (by omega),AA,show (⟨#[102,97,117,108,116,32]⟩:ByteArray)=Ch [102,97,117,108,116,32] from rfl,show (⟨#[10]⟩:ByteArray)=Ch [10] from rfl,
   if_pos (by rw [AS,AS]; simp only [List.length_cons,List.length_nil]; omega),<- B9,if_pos (by rw [AS,AS]; simp only [List.length_append,List.length_cons,List.length_nil]; omega),<- B9]
  rfl)
theorem oq (x:ByteArray) (hx:x.size<=1048576):UA x=some (Et x):=vz (by
 unfold fE Et
 rw [KV x hx,AA]
 by_cases h0:(AZ x).2.2=0
 ·obtain ⟨hv,hl,he⟩:=iA h0
  obtain ⟨f1,f2,f3,f4,f5,f6⟩:=rS h0
  rw [if_neg (by simp [h0]),if_pos h0,oT hv hl he,AA]
  exact ADp f1 f2 f3 f4 f5 f6
 ·have hcode:=gt x
  have hlen:=xU (n:=(AZ x).2.2) (by omega)
  have hd:BB (AZ x).2.2=some (Ch (Go.Lib.itoa (AZ x).2.2)):=by
   by_cases hn:(AZ x).2.2=-1
   ·rw [hn]; exact VJ
   ·obtain ⟨q,hq⟩:∃ q:Nat,(AZ x).2.2=(q:Int):=⟨(AZ x).2.2.toNat,by omega⟩
    rw [hq]
    exact HK (by omega)
  rw [if_pos (by simpa using h0),if_neg h0,hd,AA,show (⟨#[102,97,117,108,116,32]⟩:ByteArray)=Ch [102,97,117,108,116,32] from rfl,show (⟨#[10]⟩:ByteArray)=Ch [10] from rfl,
   if_pos (by rw [AS,AS]; simp only [List.length_cons,List.length_nil]; omega),<- B9,if_pos (by rw [AS,AS]; simp only [List.length_append,List.length_cons,List.length_nil]; omega),<- B9]
  rfl)
end Go.Proofs.YtfcgblnlopemkaaGreatDoor.Core
